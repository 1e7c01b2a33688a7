/- The walks of both lists of orbits. -/
import Derived.Test.YtlipjbfmmheicaaP18
import Derived.Test.YtlipjbfmmheicaaO2
namespace Go.Ab
open Go.Proofs
theorem nest_append (A B : List (List V3)) : nest (A ++ B) = nest A ++ nest B := by simp [nest]
theorem cs3_scs (l : List V3) : (cs3 l).all AV.sc = true := by
  rw [List.all_eq_true]
  intro x hx
  obtain ⟨v, _, hx⟩ := List.mem_flatMap.1 hx
  simp only [V3.cs, List.mem_cons, List.not_mem_nil, or_false] at hx
  rcases hx with rfl | rfl | rfl <;> rfl
def orbR (p : Int) (ms : List M3) : AV := if codeL p ms [] = 0 then .tup [.imm (nest (orbsM p ms)) (orbsM p ms).length, .int .i64 0] else .tup [.nilsl, .int .i64 (codeL p ms [])]
section
variable {C : Cx Try.prog 72} {Q : Post} {p : Int} {ms : List M3} {n N : Nat} {S : List V3}
theorem l_specOrb1 {i bM bO : Nat} {M O : List V3} {L : List (List V3)} (hN : N ≤ 200) (hS : S.length = N) (hO : O.length ≤ 200) (hM : M.length ≤ 100000) (hL : L.length ≤ 1000)
    (hQ : ∀ bl l, l = ownK S O i N → Q (.exit 2) ⟨[(0, .int .i64 p), (1, .imm (cs9 ms) n), (7, .imm (cs3 S) N), (8, .own 0 bM 3 0 M.length M.length true), (9, .own 1 bO 1 0 L.length L.length true), (10, .int .i64 i), (11, .imm (cs3 O) O.length), (12, .own 2 bl 3 0 l.length l.length true)], [[(bM, cs3 M)], [(bO, nest L)], [(bl, cs3 l)], [], []]⟩) :
    ∀ (d k bl : Nat) (l : List V3), k + d = N → i ≤ k → l = ownK S O i k → LP C (nav Try.f14.body.get! [1, 1, 1, 0, 1, 0, 0, 1, 0, 0, 1, 1, 0, 1, 0, 0]) Q ⟨[(0, .int .i64 p), (1, .imm (cs9 ms) n), (7, .imm (cs3 S) N), (8, .own 0 bM 3 0 M.length M.length true), (9, .own 1 bO 1 0 L.length L.length true), (10, .int .i64 i), (11, .imm (cs3 O) O.length), (12, .own 2 bl 3 0 l.length l.length true), (13, .int .i64 k)], [[(bM, cs3 M)], [(bO, nest L)], [(bl, cs3 l)], [], []]⟩ := by
  intro d
  induction d with
  | zero =>
    intro k bl l hd hik hl
    obtain rfl : k = N := by omega
    refine LP.round ?_
    refine WP.seq ?_
    refine WP.seq (WP.region (l := [0, 1, 2, 3]) rfl ?_)
    refine Run.move rfl rfl rfl (.at rfl) ?_
    refine Run.move rfl rfl rfl (.at rfl) ?_
    refine Run.len rfl rfl rfl (.at rfl) is_51 rfl ?_
    refine Run.int rfl rfl rfl (.at rfl) (.at rfl) rfl ?_
    refine Run.nil ?_
    refine WP.cond_f (.at rfl) (by simp) ?_
    exact WP.keep (WP.exit (hQ bl l hl)) (by repeat (first | exact trivial | refine ⟨rfl, ?_⟩)) (by repeat (first | exact HSub.nil | refine HSub.keep ?_ | refine HSub.dead ?_))
  | succ d ih =>
    intro k bl l hd hik hl
    have hk : k < S.length := by omega
    have hnext := ownK_next S O hik
    have hle := ownK_le S O i k
    rw [← hl] at hnext hle
    have hlc : (cs3 l).length = l.length * 3 := cs3_length l
    have htk := cs3_take l
    refine LP.round ?_
    refine WP.seq ?_
    refine WP.seq (WP.region (l := [0, 1, 2, 3]) rfl ?_)
    refine Run.move rfl rfl rfl (.at rfl) ?_
    refine Run.move rfl rfl rfl (.at rfl) ?_
    refine Run.len rfl rfl rfl (.at rfl) is_51 rfl ?_
    refine Run.int rfl rfl rfl (.at rfl) (.at rfl) rfl ?_
    refine Run.nil ?_
    refine WP.cond_t (.at rfl) (by simp; omega) ?_
    refine WP.skip ?_
    refine WP.seq ?_
    refine WP.block ?_
    refine WP.seq (WP.region (l := [0, 1, 2, 3, 4, 5]) rfl ?_)
    refine Run.move rfl rfl rfl (.at rfl) ?_
    refine Run.move rfl rfl rfl (.at rfl) ?_
    refine Run.move rfl rfl rfl (.at rfl) ?_
    refine Run.idx_imm (j := k) rfl rfl rfl (.at rfl) (.at rfl) sl_51_3 rfl (show k < N by omega) ?_
    refine Run.loads rfl rfl rfl (.at rfl) .imm ag_33_3 (cs3_get hk) rfl ?_
    refine Run.call rfl rfl rfl (.at rfl) (.cons (.at rfl) (.cons (.at rfl) .nil)) (c_l02Has O (S.getD k V3.O) (n := O.length) (by omega) rfl) ?_
    refine Run.nil ?_
    refine WP.cond (.at rfl) (fun hc4 => ?_) (fun hc4 => ?_)
    · have h4 : S.getD k V3.O ∈ O := of_decide_eq_true hc4
      rw [if_pos h4] at hnext
      refine WP.region (l := [0, 1, 2, 3, 4, 5, 6, 7]) rfl ?_
      refine Run.move rfl rfl rfl (.at rfl) ?_
      refine Run.move rfl rfl rfl (.at rfl) ?_
      refine Run.move rfl rfl rfl (.at rfl) ?_
      refine Run.idx_imm (j := k) rfl rfl rfl (.at rfl) (.at rfl) sl_51_3 rfl (show k < N by omega) ?_
      refine Run.loads rfl rfl rfl (.at rfl) .imm ag_33_3 (cs3_get hk) rfl ?_
      refine Run.buildSlice 3 rfl rfl rfl el_51 (by decide) (.cons (.at rfl) rfl .nil) rfl rfl (fun b62 => ?_)
      refine Run.append rfl rfl rfl (.at rfl) rfl el_51 (.at rfl) (.own (At.one rfl) rfl rfl) rfl (Nat.le_refl _) (by omega) (by omega) (by omega) (fun b63 => ?_)
      refine Run.assign rfl rfl rfl (.at rfl) ?_
      refine Run.nil ?_
      refine WP.region (l := [0, 1, 2]) rfl ?_
      refine Run.move rfl rfl rfl (.at rfl) ?_
      refine Run.add rfl rfl rfl (.at rfl) (.at rfl) (by omega) ?_
      refine Run.assign rfl rfl rfl (.at rfl) ?_
      refine Run.nil ?_
      have h := ih (k + 1) b63 _ (by omega) (by omega) hnext.symm
      rw [List.length_append, List.length_singleton, cs3_append] at h
      refine LP.hp (H' := [_, _, [(b63, cs3 l ++ cs3 [S.getD k V3.O])], _, _]) (by
        show [_, _, [(b63, (cs3 l).take (l.length * 3) ++ _)], _, _] = _
        rw [htk]
        rfl) ?_
      exact LP.keep h (by repeat (first | exact trivial | refine ⟨rfl, ?_⟩)) (by repeat (first | exact HSub.nil | refine HSub.keep ?_ | refine HSub.dead ?_))
    · have h4 : ¬ S.getD k V3.O ∈ O := of_decide_eq_false hc4
      rw [if_neg h4] at hnext
      refine WP.skip ?_
      refine WP.region (l := [0, 1, 2]) rfl ?_
      refine Run.move rfl rfl rfl (.at rfl) ?_
      refine Run.add rfl rfl rfl (.at rfl) (.at rfl) (by omega) ?_
      refine Run.assign rfl rfl rfl (.at rfl) ?_
      refine Run.nil ?_
      exact LP.keep (ih (k + 1) bl l (by omega) (by omega) hnext.symm) (by repeat (first | exact trivial | refine ⟨rfl, ?_⟩)) (by repeat (first | exact HSub.nil | refine HSub.keep ?_ | refine HSub.dead ?_))
theorem l_specOrb0 (hp : IsP p) (hn : n ≤ 8) (hl : ms.length = n) (hm : mapsOk p ms = true) (hN : (pts p).length = N)
    (hQ : ∀ bO L, L = outS p ms N → Q (.exit 0) ⟨[(9, .own 1 bO 1 0 L.length L.length true)], [[], [(bO, nest L)], [], [], []]⟩) :
    ∀ (d i bM bO : Nat) (M : List V3) (L : List (List V3)), i + d = N → M = metTo p ms i → L = outS p ms i → LP C (nav Try.f14.body.get! [1, 1, 1, 0, 1, 0, 0]) Q ⟨[(0, .int .i64 p), (1, .imm (cs9 ms) n), (7, .imm (cs3 (pts p)) N), (8, .own 0 bM 3 0 M.length M.length true), (9, .own 1 bO 1 0 L.length L.length true), (10, .int .i64 i)], [[(bM, cs3 M)], [(bO, nest L)], [], [], []]⟩ := by
  have hcnt := pts_cnt hp
  intro d
  induction d with
  | zero =>
    intro i bM bO M L hd hM hL
    obtain rfl : i = N := by omega
    refine LP.round ?_
    refine WP.seq ?_
    refine WP.seq (WP.region (l := [0, 1, 2, 3]) rfl ?_)
    refine Run.move rfl rfl rfl (.at rfl) ?_
    refine Run.move rfl rfl rfl (.at rfl) ?_
    refine Run.len rfl rfl rfl (.at rfl) is_51 rfl ?_
    refine Run.int rfl rfl rfl (.at rfl) (.at rfl) rfl ?_
    refine Run.nil ?_
    refine WP.cond_f (.at rfl) (by simp) ?_
    exact WP.keep (WP.exit (hQ bO L hL)) (by repeat (first | exact trivial | refine ⟨rfl, ?_⟩)) (by repeat (first | exact HSub.nil | refine HSub.keep ?_ | refine HSub.dead ?_))
  | succ d ih =>
    intro i bM bO M L hd hM hL
    have hi : i < (pts p).length := by omega
    have hx := getD_mem (L := pts p) (z := V3.O) hi
    have hMl := metTo_le hp hm i (by omega)
    have hLl := outS_le p ms i
    have hM2 : metTo p ms (i + 1) = if (pts p).getD i V3.O ∈ metTo p ms i then metTo p ms i else metTo p ms i ++ orbM p ms ((pts p).getD i V3.O) := rfl
    have hL2 : outS p ms (i + 1) = if (pts p).getD i V3.O ∈ metTo p ms i then outS p ms i else outS p ms i ++ [ownK (pts p) (orbM p ms ((pts p).getD i V3.O)) i (pts p).length] := rfl
    rw [← hM] at hM2 hL2 hMl
    rw [← hL] at hL2 hLl
    have hol : (orbM p ms ((pts p).getD i V3.O)).length ≤ (pts p).length := (orb_spec (z := V3.O) (perms_of hm) hx).lt
    have hMc : (cs3 M).length = M.length * 3 := cs3_length M
    have hMt := cs3_take M
    have hLc := nest_length L
    have hLt : (nest L).take (L.length * 1) = nest L := List.take_of_length_le (by omega)
    refine LP.round ?_
    refine WP.seq ?_
    refine WP.seq (WP.region (l := [0, 1, 2, 3]) rfl ?_)
    refine Run.move rfl rfl rfl (.at rfl) ?_
    refine Run.move rfl rfl rfl (.at rfl) ?_
    refine Run.len rfl rfl rfl (.at rfl) is_51 rfl ?_
    refine Run.int rfl rfl rfl (.at rfl) (.at rfl) rfl ?_
    refine Run.nil ?_
    refine WP.cond_t (.at rfl) (by simp; omega) ?_
    refine WP.skip ?_
    refine WP.seq ?_
    refine WP.block ?_
    refine WP.seq ?_
    refine WP.seq (WP.region (l := [0, 1, 2, 3, 4, 5]) rfl ?_)
    refine Run.move rfl rfl rfl (.at rfl) ?_
    refine Run.move rfl rfl rfl (.at rfl) ?_
    refine Run.move rfl rfl rfl (.at rfl) ?_
    refine Run.idx_imm (j := i) rfl rfl rfl (.at rfl) (.at rfl) sl_51_3 rfl (show i < N by omega) ?_
    refine Run.loads rfl rfl rfl (.at rfl) .imm ag_33_3 (cs3_get hi) rfl ?_
    refine Run.acts [] [] rfl rfl rfl (.at rfl) (.cons (.at rfl) (.cons (.at rfl) .nil)) (.cons (Lend.one rfl (Nat.le_refl _) (by rw [List.drop_zero, List.take_length])) (.cons .refl .nil)) ((c_l02Has M ((pts p).getD i V3.O) (n := M.length) (by omega) rfl).acts) rfl rfl rfl (fun x H h => ?_) (fun x H h => ?_)
    · obtain ⟨rfl, rfl⟩ := h; exact ⟨rfl, by first | rfl | simp [cleanH, cs3_cl]; done | simp [cleanH, ints_cl]; done | simp [cleanH, cs3_cl, ints_cl]; done | simp [cleanH, cs9_cl]; done | simp [cleanH, cs9_cl, cs3_cl, ints_cl]; done⟩
    obtain ⟨rfl, rfl⟩ := h
    refine Run.nil ?_
    refine WP.cond (.at rfl) (fun hc2 => ?_) (fun hc2 => ?_)
    · rw [if_pos (of_decide_eq_true hc2)] at hM2 hL2
      refine WP.exit ?_
      refine WP.region (l := [0, 1, 2]) rfl ?_
      refine Run.move rfl rfl rfl (.at rfl) ?_
      refine Run.add rfl rfl rfl (.at rfl) (.at rfl) (by omega) ?_
      refine Run.assign rfl rfl rfl (.at rfl) ?_
      refine Run.nil ?_
      exact LP.keep (ih (i + 1) bM bO M L (by omega) hM2.symm hL2.symm) (by repeat (first | exact trivial | refine ⟨rfl, ?_⟩)) (by repeat (first | exact HSub.nil | refine HSub.keep ?_ | refine HSub.dead ?_))
    · rw [if_neg (of_decide_eq_false hc2)] at hM2 hL2
      refine WP.skip ?_
      refine WP.seq (WP.region (l := [0, 1, 2, 3, 4, 5, 6, 7, 8, 9]) rfl ?_)
      refine Run.move rfl rfl rfl (.at rfl) ?_
      refine Run.move rfl rfl rfl (.at rfl) ?_
      refine Run.move rfl rfl rfl (.at rfl) ?_
      refine Run.move rfl rfl rfl (.at rfl) ?_
      refine Run.idx_imm (j := i) rfl rfl rfl (.at rfl) (.at rfl) sl_51_3 rfl (show i < N by omega) ?_
      refine Run.loads rfl rfl rfl (.at rfl) .imm ag_33_3 (cs3_get hi) rfl ?_
      refine Run.call rfl rfl rfl (.at rfl) (.cons (.at rfl) (.cons (.at rfl) (.cons (.at rfl) .nil))) (c_l10Orbit p ms ((pts p).getD i V3.O) hp hn hl hm hx) ?_
      refine Run.buildSlice 2 rfl rfl rfl el_51 (by decide) .nil rfl rfl (fun b43 => ?_)
      refine Run.assign rfl rfl rfl (.at rfl) ?_
      refine Run.assign rfl rfl rfl (.at rfl) ?_
      refine Run.nil ?_
      refine WP.seq ?_
      refine WP.seq (WP.region (l := [0, 1]) rfl ?_)
      refine Run.move rfl rfl rfl (.at rfl) ?_
      refine Run.assign rfl rfl rfl (.at rfl) ?_
      refine Run.nil ?_
      refine WP.block ?_
      refine WP.weak 12 rfl (fun _ _ _ h => own_open (id' := 2) (Nat.le_refl _) h) ?_
      refine WP.loop (LP.keep (l_specOrb1 (S := pts p) (M := M) (L := L) (O := orbM p ms ((pts p).getD i V3.O)) (i := i) (by omega) hN (by omega) (by omega) (by omega) (fun bl l hl2 => ?_) (N - i) i b43 [] (by omega) (Nat.le_refl _) (ownK_start _ _ _).symm) (by repeat (first | exact trivial | refine ⟨rfl, ?_⟩)) (by repeat (first | exact HSub.nil | refine HSub.keep ?_ | refine HSub.dead ?_)))
      refine WP.seq (WP.region (l := [0, 1, 2, 3]) rfl ?_)
      refine Run.move rfl rfl rfl (.at rfl) ?_
      refine Run.move rfl rfl rfl (.at rfl) ?_
      refine Run.append rfl rfl rfl (.at rfl) rfl el_51 (.at rfl) (.imm (cs3_take _) (cs3_length _)) (cs3_scs _) (Nat.le_refl _) (by omega) (by omega) (by omega) (fun b66 => ?_)
      refine Run.assign rfl rfl rfl (.at rfl) ?_
      refine Run.nil ?_
      refine WP.freeze 12 (cs3 l) rfl rfl (Nat.le_refl _) (by rw [List.drop_zero, List.take_length]) ?_
      refine WP.region (l := [0, 1, 2, 3, 4]) rfl ?_
      refine Run.move rfl rfl rfl (.at rfl) ?_
      refine Run.move rfl rfl rfl (.at rfl) ?_
      refine Run.buildSlice 4 rfl rfl rfl el_36 (by decide) (.cons (.at rfl) rfl .nil) rfl rfl (fun b69 => ?_)
      refine Run.append rfl rfl rfl (.at rfl) rfl el_36 (.at rfl) (.own (At.one rfl) rfl rfl) rfl (Nat.le_refl _) (by omega) (by omega) (by omega) (fun b70 => ?_)
      refine Run.assign rfl rfl rfl (.at rfl) ?_
      refine Run.nil ?_
      refine WP.region (l := [0, 1, 2]) rfl ?_
      refine Run.move rfl rfl rfl (.at rfl) ?_
      refine Run.add rfl rfl rfl (.at rfl) (.at rfl) (by omega) ?_
      refine Run.assign rfl rfl rfl (.at rfl) ?_
      refine Run.nil ?_
      rw [hN, ← hl2] at hL2
      have h := ih (i + 1) b66 b70 _ _ (by omega) hM2.symm hL2.symm
      rw [List.length_append, List.length_append, List.length_singleton, cs3_append, nest_append] at h
      refine LP.hp (H' := [[(b66, cs3 M ++ cs3 (orbM p ms ((pts p).getD i V3.O)))], [(b70, nest L ++ nest [l])], _, _, _]) (by
        show [[(b66, (cs3 M).take (M.length * 3) ++ _)], [(b70, (nest L).take (L.length * 1) ++ _)], _, _, _] = _
        rw [hMt, hLt]
        rfl) ?_
      exact LP.keep h (by repeat (first | exact trivial | refine ⟨rfl, ?_⟩)) (by repeat (first | exact HSub.nil | refine HSub.keep ?_ | refine HSub.dead ?_))
theorem c_specOrbits (p : Int) (ms : List M3) {n : Nat} (hn : n ≤ 2000000) (hl : ms.length = n) :
    Pure Try.prog 14 [.int .i64 p, .imm (cs9 ms) n] (orbR p ms) := by
  unfold orbR
  by_cases h : codeL p ms [] = 0
  · rw [if_pos h]
    obtain ⟨hp, hok, _, h8⟩ := codeL_ok h
    have hb := hp.bd
    have hpl := @pts_length p
    have hap := c_l01Points p (by omega)
    rw [← hpl] at hap
    have hor := outS_orbs hp hok
    refine Pure.body 5 (n := 72) (fn := Try.f14) (c := Try.f14.body.get!) fn_14 rfl nm_14 rfl rfl fun C => ?_
    refine WP.seq (WP.region (l := [0, 1]) rfl ?_)
    refine Run.assign rfl rfl rfl (.at rfl) ?_
    refine Run.assign rfl rfl rfl (.at rfl) ?_
    refine Run.nil ?_
    refine WP.seq ?_
    refine WP.seq (WP.region (l := [0, 1, 2, 3]) rfl ?_)
    refine Run.move rfl rfl rfl (.at rfl) ?_
    refine Run.move rfl rfl rfl (.at rfl) ?_
    refine Run.acts [] [] rfl rfl rfl (.at rfl) (.cons (.at rfl) (.cons (.at rfl) (.cons (.at rfl) .nil))) (.cons .refl (.cons .refl (.cons .nil .nil))) ((c_l10Maps p ms [] hn hl (k := 0) (by decide) rfl).acts) rfl rfl rfl (fun x H h => ?_) (fun x H h => ?_)
    · obtain ⟨rfl, rfl⟩ := h; exact ⟨rfl, by first | rfl | simp [cleanH, cs3_cl]; done | simp [cleanH, ints_cl]; done | simp [cleanH, cs3_cl, ints_cl]; done | simp [cleanH, cs9_cl]; done | simp [cleanH, cs9_cl, cs3_cl, ints_cl]; done⟩
    obtain ⟨rfl, rfl⟩ := h
    refine Run.assign rfl rfl rfl (.at rfl) ?_
    refine Run.nil ?_
    refine WP.seq (WP.region (l := [0, 1]) rfl ?_)
    refine Run.move rfl rfl rfl (.at rfl) ?_
    refine Run.int rfl rfl rfl (.at rfl) (.at rfl) rfl ?_
    refine Run.nil ?_
    refine WP.cond_f (.at rfl) (by rw [h]; rfl) ?_
    refine WP.skip ?_
    refine WP.seq (WP.region (l := [0, 1, 2, 3, 4, 5, 6]) rfl ?_)
    refine Run.move rfl rfl rfl (.at rfl) ?_
    refine Run.call rfl rfl rfl (.at rfl) (.cons (.at rfl) .nil) (hap) ?_
    refine Run.buildSlice 0 rfl rfl rfl el_51 (by decide) .nil rfl rfl (fun b22 => ?_)
    refine Run.buildSlice 1 rfl rfl rfl el_36 (by decide) .nil rfl rfl (fun b23 => ?_)
    refine Run.assign rfl rfl rfl (.at rfl) ?_
    refine Run.assign rfl rfl rfl (.at rfl) ?_
    refine Run.assign rfl rfl rfl (.at rfl) ?_
    refine Run.nil ?_
    refine WP.seq ?_
    refine WP.seq (WP.region (l := [0]) rfl ?_)
    refine Run.assign rfl rfl rfl (.at rfl) ?_
    refine Run.nil ?_
    refine WP.block ?_
    refine WP.weak 8 rfl (fun _ _ _ h => own_open (id' := 0) (Nat.le_refl _) h) ?_
    refine WP.weak 9 rfl (fun _ _ _ h => own_open (id' := 1) (Nat.le_refl _) h) ?_
    refine WP.loop (LP.keep (l_specOrb0 (ms := ms) hp (by omega) hl hok rfl (fun bO L hL => ?_) (pts p).length 0 b22 b23 [] [] (by omega) rfl rfl) (by repeat (first | exact trivial | refine ⟨rfl, ?_⟩)) (by repeat (first | exact HSub.nil | refine HSub.keep ?_ | refine HSub.dead ?_)))
    rw [hor] at hL
    subst hL
    refine WP.freeze 9 (nest (orbsM p ms)) rfl rfl (Nat.le_refl _) (by rw [List.drop_zero, List.take_length]) ?_
    refine WP.seq (WP.region (l := [0, 1, 2]) rfl ?_)
    refine Run.move rfl rfl rfl (.at rfl) ?_
    refine Run.assign rfl rfl rfl (.at rfl) ?_
    refine Run.assign rfl rfl rfl (.at rfl) ?_
    refine Run.nil ?_
    refine WP.ret ?_
    exact Ends.pure (.tmp rfl (.tmp rfl .nil)) rfl
  · rw [if_neg h]
    refine Pure.body 5 (n := 72) (fn := Try.f14) (c := Try.f14.body.get!) fn_14 rfl nm_14 rfl rfl fun C => ?_
    refine WP.seq (WP.region (l := [0, 1]) rfl ?_)
    refine Run.assign rfl rfl rfl (.at rfl) ?_
    refine Run.assign rfl rfl rfl (.at rfl) ?_
    refine Run.nil ?_
    refine WP.seq ?_
    refine WP.seq (WP.region (l := [0, 1, 2, 3]) rfl ?_)
    refine Run.move rfl rfl rfl (.at rfl) ?_
    refine Run.move rfl rfl rfl (.at rfl) ?_
    refine Run.acts [] [] rfl rfl rfl (.at rfl) (.cons (.at rfl) (.cons (.at rfl) (.cons (.at rfl) .nil))) (.cons .refl (.cons .refl (.cons .nil .nil))) ((c_l10Maps p ms [] hn hl (k := 0) (by decide) rfl).acts) rfl rfl rfl (fun x H h => ?_) (fun x H h => ?_)
    · obtain ⟨rfl, rfl⟩ := h; exact ⟨rfl, by first | rfl | simp [cleanH, cs3_cl]; done | simp [cleanH, ints_cl]; done | simp [cleanH, cs3_cl, ints_cl]; done | simp [cleanH, cs9_cl]; done | simp [cleanH, cs9_cl, cs3_cl, ints_cl]; done⟩
    obtain ⟨rfl, rfl⟩ := h
    refine Run.assign rfl rfl rfl (.at rfl) ?_
    refine Run.nil ?_
    refine WP.seq (WP.region (l := [0, 1]) rfl ?_)
    refine Run.move rfl rfl rfl (.at rfl) ?_
    refine Run.int rfl rfl rfl (.at rfl) (.at rfl) rfl ?_
    refine Run.nil ?_
    refine WP.cond_t (.at rfl) (by simpa using h) ?_
    refine WP.seq (WP.region (l := [0, 1, 2]) rfl ?_)
    refine Run.move rfl rfl rfl (.at rfl) ?_
    refine Run.assign rfl rfl rfl (.at rfl) ?_
    refine Run.assign rfl rfl rfl (.at rfl) ?_
    refine Run.nil ?_
    refine WP.ret ?_
    exact Ends.pure (.tmp rfl (.tmp rfl .nil)) rfl
end
theorem c_orbitsA (p : Int) (ms : List M3) {n : Nat} (hp : IsP p) (hn : n ≤ 8) (hl : ms.length = n) (hm : mapsOk p ms = true) :
    Acts Try.prog 31 [.int .i64 p, .imm (cs9 ms) n] [] (fun x H => ∃ bo f, x = .own 0 bo 1 0 f.length f.length true ∧ f.map Prod.snd = orbsM p ms ∧ H = [[(bo, famA 0 f)], famH f]) := by
  have hb := hp.bd
  have hcnt := pts_cnt hp
  have P := perms_of hm
  have hpl := @pts_length p
  have hap := c_allPoints p (by omega)
  rw [← hpl] at hap
  have hlen := (cls_spec (z := V3.O) P).len
  refine Acts.body 11 (n := 126) (fn := Try.f31) (c := Try.f31.body.get!) fn_31 rfl nm_31 rfl rfl fun C => ?_
  refine WP.seq (WP.region (l := [0]) rfl ?_)
  refine Run.assign rfl rfl rfl (.at rfl) ?_
  refine Run.nil ?_
  refine WP.seq (WP.region (l := [0, 1, 2]) rfl ?_)
  refine Run.move rfl rfl rfl (.at rfl) ?_
  refine Run.call rfl rfl rfl (.at rfl) (.cons (.at rfl) .nil) (hap) ?_
  refine Run.assign rfl rfl rfl (.at rfl) ?_
  refine Run.nil ?_
  refine WP.seq (WP.region (l := [0, 1, 2, 3]) rfl ?_)
  refine Run.makeMap 0 rfl rfl rfl (fun b24 => ?_)
  refine Run.buildSlice 1 rfl rfl rfl el_67 (by decide) .nil rfl rfl (fun b25 => ?_)
  refine Run.assign rfl rfl rfl (.at rfl) ?_
  refine Run.assign rfl rfl rfl (.at rfl) ?_
  refine Run.nil ?_
  refine WP.seq ?_
  refine WP.seq (WP.region (l := [0, 1, 2]) rfl ?_)
  refine Run.move rfl rfl rfl (.at rfl) ?_
  refine Run.len rfl rfl rfl (.at rfl) is_51 rfl ?_
  refine Run.move rfl rfl rfl (.at rfl) ?_
  refine Run.nil ?_
  refine WP.block ?_
  refine WP.weak 7 rfl (fun _ _ _ h => own_open (id' := 1) (Nat.le_refl _) h) ?_
  refine WP.loop (LP.keep (l_orbits0 (ms := ms) (n := n) (S := pts p) (by omega) rfl (pts_nodup hp) (fun bm bc => ?_) (pts p).length 0 b24 b25 (by omega)) (by repeat (first | exact trivial | refine ⟨rfl, ?_⟩)) (by repeat (first | exact HSub.nil | refine HSub.keep ?_ | refine HSub.dead ?_)))
  refine WP.seq ?_
  refine WP.seq (WP.region (l := [0, 1, 2]) rfl ?_)
  refine Run.move rfl rfl rfl (.at rfl) ?_
  refine Run.len rfl rfl rfl (.at rfl) is_26 rfl ?_
  refine Run.move rfl rfl rfl (.at rfl) ?_
  refine Run.nil ?_
  refine WP.block ?_
  refine WP.loop (LP.keep (l_orbits1 (S := pts p) hp hn hl (by omega) rfl (mapsOk_ir hm) (fun v hv => V3.ir_sm hp (pts_ir hp hv)) P.mem (fun bm2 bc2 => ?_) n 0 bm bc _ (by omega) (List.length_range) rfl) (by repeat (first | exact trivial | refine ⟨rfl, ?_⟩)) (by repeat (first | exact HSub.nil | refine HSub.keep ?_ | refine HSub.dead ?_)))
  refine WP.seq (WP.region (l := [0, 1]) rfl ?_)
  refine Run.buildSlice 6 rfl rfl rfl el_36 (by decide) .nil rfl rfl (fun b92 => ?_)
  refine Run.assign rfl rfl rfl (.at rfl) ?_
  refine Run.nil ?_
  refine WP.seq ?_
  refine WP.seq (WP.region (l := [0, 1, 2]) rfl ?_)
  refine Run.move rfl rfl rfl (.at rfl) ?_
  refine Run.len rfl rfl rfl (.at rfl) is_51 rfl ?_
  refine Run.move rfl rfl rfl (.at rfl) ?_
  refine Run.nil ?_
  refine WP.block ?_
  refine WP.weak 17 rfl (fun _ _ _ h => own_open (id' := 6) (Nat.le_refl _) h) ?_
  refine WP.loop (LP.keep (l_orbits4 (S := pts p) (c := cls (imgM p) (pts p) V3.O ms) (by omega) rfl hlen (fun bo f hf => ?_) (pts p).length 0 b92 [] (by omega) rfl) (by repeat (first | exact trivial | refine ⟨rfl, ?_⟩)) (by repeat (first | exact HSub.nil | refine HSub.keep ?_ | refine HSub.dead ?_)))
  have hf' : f.map Prod.snd = orbsM p ms := hf
  refine WP.weak 17 rfl (fun _ _ _ h => own_name 0 h) ?_
  refine WP.seq (WP.region (l := [0, 1]) rfl ?_)
  refine Run.move rfl rfl rfl (.at rfl) ?_
  refine Run.assign rfl rfl rfl (.at rfl) ?_
  refine Run.nil ?_
  refine WP.ret ?_
  exact ⟨_, [[(bo, famA 0 f)], famH f], (.tmp rfl .nil), Moved.pick (is := [6, 0]) rfl, bo, f, rfl, hf', rfl⟩
theorem c_implOrbitsA (id : Nat) (p : Int) (ms : List M3) {n : Nat} (hn : n ≤ 2000000) (hl : ms.length = n) (h : codeL p ms [] = 0) :
    Acts Try.prog 15 [.int .i64 p, .imm (cs9 ms) n] [] (fun x H => ∃ bo f, x = .tup [.own id bo 1 0 f.length f.length true, .int .i64 0] ∧ f.map Prod.snd = orbsM p ms ∧ H = [[(bo, famA 0 f)], famH f]) := by
  obtain ⟨hp, hok, _, h8⟩ := codeL_ok h
  refine Acts.body 2 (n := 16) (fn := Try.f15) (c := Try.f15.body.get!) fn_15 rfl nm_15 rfl rfl fun C => ?_
  refine WP.seq (WP.region (l := [0, 1]) rfl ?_)
  refine Run.assign rfl rfl rfl (.at rfl) ?_
  refine Run.assign rfl rfl rfl (.at rfl) ?_
  refine Run.nil ?_
  refine WP.seq ?_
  refine WP.seq (WP.region (l := [0, 1, 2, 3]) rfl ?_)
  refine Run.move rfl rfl rfl (.at rfl) ?_
  refine Run.move rfl rfl rfl (.at rfl) ?_
  refine Run.acts [] [] rfl rfl rfl (.at rfl) (.cons (.at rfl) (.cons (.at rfl) (.cons (.at rfl) .nil))) (.cons .refl (.cons .refl (.cons .nil .nil))) ((c_listCode p ms [] hn hl (k := 0) (by decide) rfl).acts) rfl rfl rfl (fun x H h => ?_) (fun x H h => ?_)
  · obtain ⟨rfl, rfl⟩ := h; exact ⟨rfl, by first | rfl | simp [cleanH, cs3_cl]; done | simp [cleanH, ints_cl]; done | simp [cleanH, cs3_cl, ints_cl]; done | simp [cleanH, cs9_cl]; done | simp [cleanH, cs9_cl, cs3_cl, ints_cl]; done⟩
  obtain ⟨rfl, rfl⟩ := h
  refine Run.assign rfl rfl rfl (.at rfl) ?_
  refine Run.nil ?_
  refine WP.seq (WP.region (l := [0, 1]) rfl ?_)
  refine Run.move rfl rfl rfl (.at rfl) ?_
  refine Run.int rfl rfl rfl (.at rfl) (.at rfl) rfl ?_
  refine Run.nil ?_
  refine WP.cond_f (.at rfl) (by rw [h]; rfl) ?_
  refine WP.skip ?_
  refine WP.seq (WP.region (l := [0, 1, 2, 3, 4]) rfl ?_)
  refine Run.move rfl rfl rfl (.at rfl) ?_
  refine Run.move rfl rfl rfl (.at rfl) ?_
  refine Run.acts [] [0, 1] rfl rfl rfl (.at rfl) (.cons (.at rfl) (.cons (.at rfl) .nil)) (LendL.refl _ _) (c_orbitsA p ms hp (by omega) hl hok) rfl rfl rfl (fun x H h => ?_) (fun x H h => ?_)
  · obtain ⟨bo, f, rfl, hf, rfl⟩ := h; exact ⟨rfl, famClean bo f⟩
  obtain ⟨bo, f, rfl, hf, rfl⟩ := h
  refine Run.assign rfl rfl rfl (.at rfl) ?_
  refine Run.assign rfl rfl rfl (.at rfl) ?_
  refine Run.weak 4 rfl (fun _ _ _ h => own_name id h) ?_
  refine Run.nil ?_
  refine WP.ret ?_
  exact ⟨_, [[(bo, famA 0 f)], famH f], (.tmp rfl (.tmp rfl .nil)), Moved.pick (is := [0, 1]) rfl, bo, f, rfl, hf, rfl⟩
theorem c_implOrbitsNo (p : Int) (ms : List M3) {n : Nat} (hn : n ≤ 2000000) (hl : ms.length = n) (h : codeL p ms [] ≠ 0) :
    Pure Try.prog 15 [.int .i64 p, .imm (cs9 ms) n] (.tup [.nilsl, .int .i64 (codeL p ms [])]) := by
  refine Pure.body 0 (n := 16) (fn := Try.f15) (c := Try.f15.body.get!) fn_15 rfl nm_15 rfl rfl fun C => ?_
  refine WP.seq (WP.region (l := [0, 1]) rfl ?_)
  refine Run.assign rfl rfl rfl (.at rfl) ?_
  refine Run.assign rfl rfl rfl (.at rfl) ?_
  refine Run.nil ?_
  refine WP.seq ?_
  refine WP.seq (WP.region (l := [0, 1, 2, 3]) rfl ?_)
  refine Run.move rfl rfl rfl (.at rfl) ?_
  refine Run.move rfl rfl rfl (.at rfl) ?_
  refine Run.acts [] [] rfl rfl rfl (.at rfl) (.cons (.at rfl) (.cons (.at rfl) (.cons (.at rfl) .nil))) (.cons .refl (.cons .refl (.cons .nil .nil))) ((c_listCode p ms [] hn hl (k := 0) (by decide) rfl).acts) rfl rfl rfl (fun x H h => ?_) (fun x H h => ?_)
  · obtain ⟨rfl, rfl⟩ := h; exact ⟨rfl, by first | rfl | simp [cleanH, cs3_cl]; done | simp [cleanH, ints_cl]; done | simp [cleanH, cs3_cl, ints_cl]; done | simp [cleanH, cs9_cl]; done | simp [cleanH, cs9_cl, cs3_cl, ints_cl]; done⟩
  obtain ⟨rfl, rfl⟩ := h
  refine Run.assign rfl rfl rfl (.at rfl) ?_
  refine Run.nil ?_
  refine WP.seq (WP.region (l := [0, 1]) rfl ?_)
  refine Run.move rfl rfl rfl (.at rfl) ?_
  refine Run.int rfl rfl rfl (.at rfl) (.at rfl) rfl ?_
  refine Run.nil ?_
  refine WP.cond_t (.at rfl) (by simpa using h) ?_
  refine WP.seq (WP.region (l := [0, 1, 2]) rfl ?_)
  refine Run.move rfl rfl rfl (.at rfl) ?_
  refine Run.assign rfl rfl rfl (.at rfl) ?_
  refine Run.assign rfl rfl rfl (.at rfl) ?_
  refine Run.nil ?_
  refine WP.ret ?_
  exact Ends.pure (.tmp rfl (.tmp rfl .nil)) rfl
end Go.Ab
