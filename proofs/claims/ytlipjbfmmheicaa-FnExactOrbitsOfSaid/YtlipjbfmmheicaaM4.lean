/- The walks of the code's maps: what is a map; codes. -/
import Derived.Test.YtlipjbfmmheicaaM3
namespace Go.Ab
open Go.Proofs
theorem c_IsMap (p : Int) (m : M3) : Pure Try.prog 61 [.int .i64 p, m.av] (.bool (isM p m)) := by
  cases hP : isP p with
  | false =>
    have h0 := c_isPrime p
    rw [hP] at h0
    refine Pure.body 2 (n := 19) (fn := Try.f61) (c := Try.f61.body.get!) fn_61 rfl nm_61 rfl rfl fun C => ?_
    refine WP.seq (WP.region (l := [0, 1]) rfl ?_)
    refine Run.box 0 rfl rfl rfl (.at rfl) rfl (fun b3 => ?_)
    refine Run.assign rfl rfl rfl (.at rfl) ?_
    refine Run.nil ?_
    refine WP.seq (WP.region (l := [0, 1, 2, 3, 4, 5, 6, 7, 8, 9, 10, 11, 12, 13, 14]) rfl ?_)
    refine Run.move rfl rfl rfl (.at rfl) ?_
    refine Run.call rfl rfl rfl (.at rfl) (.cons (.at rfl) .nil) (h0) ?_
    refine Run.move rfl rfl rfl (.at rfl) ?_
    refine Run.no rfl rfl rfl rfl ?_
    refine Run.no rfl rfl rfl rfl ?_
    refine Run.no rfl rfl rfl rfl ?_
    refine Run.no rfl rfl rfl rfl ?_
    refine Run.pick_f rfl rfl rfl (.at rfl) rfl (.at rfl) ?_
    refine Run.move rfl rfl rfl (.at rfl) ?_
    refine Run.no rfl rfl rfl rfl ?_
    refine Run.no rfl rfl rfl rfl ?_
    refine Run.no rfl rfl rfl rfl ?_
    refine Run.no rfl rfl rfl rfl ?_
    refine Run.pick_f rfl rfl rfl (.at rfl) rfl (.at rfl) ?_
    refine Run.assign rfl rfl rfl (.at rfl) ?_
    refine Run.nil ?_
    refine WP.ret ?_
    exact Ends.pure (.tmp rfl .nil) (by unfold isM; rw [hP]; rfl)
  | true =>
    have h0 := c_isPrime p
    rw [hP] at h0
    have hp := isP_iff.1 hP
    cases hN : nrm p m.l with
    | false =>
      have h1 := c_isNormal p m.l (n := 9) hp (by decide) rfl
      rw [hN] at h1
      refine Pure.body 2 (n := 19) (fn := Try.f61) (c := Try.f61.body.get!) fn_61 rfl nm_61 rfl rfl fun C => ?_
      refine WP.seq (WP.region (l := [0, 1]) rfl ?_)
      refine Run.box 0 rfl rfl rfl (.at rfl) rfl (fun b3 => ?_)
      refine Run.assign rfl rfl rfl (.at rfl) ?_
      refine Run.nil ?_
      refine WP.seq (WP.region (l := [0, 1, 2, 3, 4, 5, 6, 7, 8, 9, 10, 11, 12, 13, 14]) rfl ?_)
      refine Run.move rfl rfl rfl (.at rfl) ?_
      refine Run.call rfl rfl rfl (.at rfl) (.cons (.at rfl) .nil) (h0) ?_
      refine Run.move rfl rfl rfl (.at rfl) ?_
      refine Run.move rfl rfl rfl (.at rfl) ?_
      refine Run.loads rfl rfl rfl (.at rfl) (place_adr rfl) ag_44_9 rfl rfl ?_
      refine Run.acts [] [1] rfl rfl rfl (.at rfl) (.cons (.at rfl) .nil) (LendL.refl _ _) (c_flat 1 m) rfl rfl rfl (fun x H h => ?_) (fun x H h => ?_)
      · obtain ⟨b10, rfl, rfl⟩ := h; exact ⟨rfl, by first | rfl | simp [cleanH, cs3_cl]; done | simp [cleanH, ints_cl]; done | simp [cleanH, cs3_cl, ints_cl]; done | simp [cleanH, cs9_cl]; done | simp [cleanH, cs9_cl, cs3_cl, ints_cl]; done⟩
      obtain ⟨b10, rfl, rfl⟩ := h
      refine Run.acts [] [] rfl rfl rfl (.at rfl) (.cons (.at rfl) (.cons (.at rfl) .nil)) (.cons .refl (.cons (Lend.one rfl (by decide) (by rfl)) .nil)) (h1.acts) rfl rfl rfl (fun x H h => ?_) (fun x H h => ?_)
      · obtain ⟨rfl, rfl⟩ := h; exact ⟨rfl, by first | rfl | simp [cleanH, cs3_cl]; done | simp [cleanH, ints_cl]; done | simp [cleanH, cs3_cl, ints_cl]; done | simp [cleanH, cs9_cl]; done | simp [cleanH, cs9_cl, cs3_cl, ints_cl]; done⟩
      obtain ⟨rfl, rfl⟩ := h
      refine Run.pick_t rfl rfl rfl (.at rfl) rfl (.at rfl) ?_
      refine Run.move rfl rfl rfl (.at rfl) ?_
      refine Run.no rfl rfl rfl rfl ?_
      refine Run.no rfl rfl rfl rfl ?_
      refine Run.no rfl rfl rfl rfl ?_
      refine Run.no rfl rfl rfl rfl ?_
      refine Run.pick_f rfl rfl rfl (.at rfl) rfl (.at rfl) ?_
      refine Run.assign rfl rfl rfl (.at rfl) ?_
      refine Run.nil ?_
      refine WP.ret ?_
      exact Ends.pure (.tmp rfl .nil) (by unfold isM; rw [hP, hN]; rfl)
    | true =>
      have h1 := c_isNormal p m.l (n := 9) hp (by decide) rfl
      rw [hN] at h1
      have hin : allIn p m.l = true := by
        unfold nrm at hN
        simp only [Bool.and_eq_true] at hN
        exact hN.1
      have hm := M3.sm_of hp hin
      refine Pure.body 2 (n := 19) (fn := Try.f61) (c := Try.f61.body.get!) fn_61 rfl nm_61 rfl rfl fun C => ?_
      refine WP.seq (WP.region (l := [0, 1]) rfl ?_)
      refine Run.box 0 rfl rfl rfl (.at rfl) rfl (fun b3 => ?_)
      refine Run.assign rfl rfl rfl (.at rfl) ?_
      refine Run.nil ?_
      refine WP.seq (WP.region (l := [0, 1, 2, 3, 4, 5, 6, 7, 8, 9, 10, 11, 12, 13, 14]) rfl ?_)
      refine Run.move rfl rfl rfl (.at rfl) ?_
      refine Run.call rfl rfl rfl (.at rfl) (.cons (.at rfl) .nil) (h0) ?_
      refine Run.move rfl rfl rfl (.at rfl) ?_
      refine Run.move rfl rfl rfl (.at rfl) ?_
      refine Run.loads rfl rfl rfl (.at rfl) (place_adr rfl) ag_44_9 rfl rfl ?_
      refine Run.acts [] [1] rfl rfl rfl (.at rfl) (.cons (.at rfl) .nil) (LendL.refl _ _) (c_flat 1 m) rfl rfl rfl (fun x H h => ?_) (fun x H h => ?_)
      · obtain ⟨b10, rfl, rfl⟩ := h; exact ⟨rfl, by first | rfl | simp [cleanH, cs3_cl]; done | simp [cleanH, ints_cl]; done | simp [cleanH, cs3_cl, ints_cl]; done | simp [cleanH, cs9_cl]; done | simp [cleanH, cs9_cl, cs3_cl, ints_cl]; done⟩
      obtain ⟨b10, rfl, rfl⟩ := h
      refine Run.acts [] [] rfl rfl rfl (.at rfl) (.cons (.at rfl) (.cons (.at rfl) .nil)) (.cons .refl (.cons (Lend.one rfl (by decide) (by rfl)) .nil)) (h1.acts) rfl rfl rfl (fun x H h => ?_) (fun x H h => ?_)
      · obtain ⟨rfl, rfl⟩ := h; exact ⟨rfl, by first | rfl | simp [cleanH, cs3_cl]; done | simp [cleanH, ints_cl]; done | simp [cleanH, cs3_cl, ints_cl]; done | simp [cleanH, cs9_cl]; done | simp [cleanH, cs9_cl, cs3_cl, ints_cl]; done⟩
      obtain ⟨rfl, rfl⟩ := h
      refine Run.pick_t rfl rfl rfl (.at rfl) rfl (.at rfl) ?_
      refine Run.move rfl rfl rfl (.at rfl) ?_
      refine Run.loads rfl rfl rfl (.at rfl) (place_adr rfl) ag_44_9 rfl rfl ?_
      refine Run.move rfl rfl rfl (.at rfl) ?_
      refine Run.call rfl rfl rfl (.at rfl) (.cons (.at rfl) (.cons (.at rfl) .nil)) (c_det _ _ hp hm) ?_
      refine Run.int rfl rfl rfl (.at rfl) (.at rfl) rfl ?_
      refine Run.pick_t rfl rfl rfl (.at rfl) rfl (.at rfl) ?_
      refine Run.assign rfl rfl rfl (.at rfl) ?_
      refine Run.nil ?_
      refine WP.ret ?_
      exact Ends.pure (.tmp rfl .nil) (by unfold isM; rw [hP, hN]; rfl)
theorem c_mapsCode11 (p : Int) (m : M3) : Pure Try.prog 60 [m.av, .immAt [.int .i64 p] 0] (.bool (!isM p m)) := by
  refine Pure.body 1 (n := 8) (fn := Try.f60) (c := Try.f60.body.get!) fn_60 rfl nm_60 rfl rfl fun C => ?_
  refine WP.seq (WP.region (l := [0, 1]) rfl ?_)
  refine Run.box 0 rfl rfl rfl (.at rfl) rfl (fun b2 => ?_)
  refine Run.assign rfl rfl rfl (.at rfl) ?_
  refine Run.nil ?_
  refine WP.seq (WP.region (l := [0, 1, 2, 3, 4]) rfl ?_)
  refine Run.load rfl rfl rfl (.at rfl) .imm sc_2 rfl ?_
  refine Run.loads rfl rfl rfl (.at rfl) (place_adr rfl) ag_44_9 rfl rfl ?_
  refine Run.call rfl rfl rfl (.at rfl) (.cons (.at rfl) (.cons (.at rfl) .nil)) (c_IsMap _ _) ?_
  refine Run.not rfl rfl rfl (.at rfl) ?_
  refine Run.assign rfl rfl rfl (.at rfl) ?_
  refine Run.nil ?_
  refine WP.ret ?_
  exact Ends.pure (.tmp rfl .nil) rfl
/-- The first map of a list that is none. -/
def badM (p : Int) (l : List M3) : Int := match l.findIdx? (fun m => !isM p m) with
  | some k => (k : Int)
  | none => -1
theorem badM_ok {p : Int} {l : List M3} (h : mapsOk p l = true) : badM p l = -1 := by
  have : l.findIdx? (fun m => !isM p m) = none := by
    rw [List.findIdx?_eq_none_iff]
    intro m hm
    unfold mapsOk at h
    rw [List.all_eq_true] at h
    rw [h m hm]; rfl
  unfold badM
  rw [this]
theorem badM_no {p : Int} {l : List M3} (h : mapsOk p l = false) : 0 ≤ badM p l := by
  unfold badM
  cases hf : l.findIdx? (fun m => !isM p m) with
  | none =>
    rw [List.findIdx?_eq_none_iff] at hf
    have : mapsOk p l = true := by
      unfold mapsOk
      rw [List.all_eq_true]
      intro m hm
      simpa using hf m hm
    rw [this] at h
    cases h
  | some k => simp
abbrev IFn := FuncId
theorem l_indexMap {C : Cx Try.prog 19} {Q : Post} {p : Int} {l : List M3} {n : Nat} {f : FuncId} {cap : List AV} (hf : ∀ m, Pure Try.prog f (m.av :: cap) (.bool (!isM p m))) (hl : n ≤ 4000000) (hn : l.length = n)
    (hQ : mapsOk p l = true → Q (.exit 0) ⟨[], []⟩) (hR : badM p l ≠ -1 → Q .ret ⟨[(4, .int .i64 (badM p l))], []⟩) :
    ∀ (d k : Nat), k + d = n → mapsOk p (l.take k) = true → LP C (nav Try.f75.body.get! [1, 0, 1, 0, 0]) Q ⟨[(0, .imm (cs9 l) n), (1, .fn f cap), (7, .int .i64 n), (8, .int .i64 k)], []⟩ := by
  intro d
  induction d with
  | zero =>
    intro k hd he
    rw [List.take_of_length_le (by omega)] at he
    refine LP.round ?_
    refine WP.seq (WP.region (l := [0]) rfl ?_)
    refine Run.int rfl rfl rfl (.at rfl) (.at rfl) rfl ?_
    refine Run.nil ?_
    refine WP.seq ?_
    refine WP.cond_f (.at rfl) (by simp; omega) ?_
    exact WP.keep (WP.exit (hQ he)) (by repeat (first | exact trivial | refine ⟨rfl, ?_⟩)) (by repeat (first | exact HSub.nil | refine HSub.keep ?_ | refine HSub.dead ?_))
  | succ d ih =>
    intro k hd he
    have hk : k < l.length := by omega
    refine LP.round ?_
    refine WP.seq (WP.region (l := [0]) rfl ?_)
    refine Run.int rfl rfl rfl (.at rfl) (.at rfl) rfl ?_
    refine Run.nil ?_
    refine WP.seq ?_
    refine WP.cond_t (.at rfl) (by simp; omega) ?_
    refine WP.skip ?_
    refine WP.seq ?_
    refine WP.block ?_
    refine WP.seq (WP.region (l := [0, 1]) rfl ?_)
    refine Run.move rfl rfl rfl (.at rfl) ?_
    refine Run.assign rfl rfl rfl (.at rfl) ?_
    refine Run.nil ?_
    refine WP.seq (WP.region (l := [0, 1, 2, 3, 4, 5]) rfl ?_)
    refine Run.move rfl rfl rfl (.at rfl) ?_
    refine Run.move rfl rfl rfl (.at rfl) ?_
    refine Run.move rfl rfl rfl (.at rfl) ?_
    refine Run.idx_imm (j := k) rfl rfl rfl (.at rfl) (.at rfl) sl_26_9 rfl (show k < n by omega) ?_
    refine Run.loads rfl rfl rfl (.at rfl) .imm ag_44_9 (cs9_get hk) rfl ?_
    refine Run.call rfl rfl rfl (.at rfl) (.cons (.at rfl) .nil) (hf (l.getD k M3.O)) ?_
    refine Run.nil ?_
    refine WP.cond (.at rfl) (fun hc1 => ?_) (fun hc1 => ?_)
    · have hb : badM p l = k := by
        unfold badM
        have : l.findIdx? (fun m => !isM p m) = some k := by
          rw [List.findIdx?_eq_some_iff_getElem]
          refine ⟨hk, by simpa [hk] using hc1, fun j hj => ?_⟩
          unfold mapsOk at he
          rw [List.all_eq_true] at he
          have := he (l[j]) (by rw [List.mem_take_iff_getElem]; exact ⟨j, by omega, rfl⟩)
          rw [this]; simp
        rw [this]
      rw [hb] at hR
      refine WP.seq (WP.region (l := [0, 1]) rfl ?_)
      refine Run.move rfl rfl rfl (.at rfl) ?_
      refine Run.assign rfl rfl rfl (.at rfl) ?_
      refine Run.nil ?_
      exact WP.keep (WP.ret (hR (by omega))) (by repeat (first | exact trivial | refine ⟨rfl, ?_⟩)) (by repeat (first | exact HSub.nil | refine HSub.keep ?_ | refine HSub.dead ?_))
    · have he' : mapsOk p (l.take (k + 1)) = true := by
        rw [take_getD (z := M3.O) hk]
        unfold mapsOk at he ⊢
        rw [List.all_append, he]
        simpa using hc1
      refine WP.skip ?_
      refine WP.region (l := [0, 1]) rfl ?_
      refine Run.add rfl rfl rfl (.at rfl) (.at rfl) (by omega) ?_
      refine Run.move rfl rfl rfl (.at rfl) ?_
      refine Run.nil ?_
      exact LP.keep (ih (k + 1) (by omega) he') (by repeat (first | exact trivial | refine ⟨rfl, ?_⟩)) (by repeat (first | exact HSub.nil | refine HSub.keep ?_ | refine HSub.dead ?_))
theorem c_indexMap (p : Int) (l : List M3) {n : Nat} {f : FuncId} {cap : List AV} (hf : ∀ m, Pure Try.prog f (m.av :: cap) (.bool (!isM p m))) (hl : n ≤ 4000000) (hn : l.length = n) :
    Pure Try.prog 75 [.imm (cs9 l) n, .fn f cap] (.int .i64 (badM p l)) := by
  refine Pure.body 0 (n := 19) (fn := Try.f75) (c := Try.f75.body.get!) fn_75 rfl nm_75 rfl rfl fun C => ?_
  refine WP.seq (WP.region (l := [0]) rfl ?_)
  refine Run.assign rfl rfl rfl (.at rfl) ?_
  refine Run.nil ?_
  refine WP.seq ?_
  refine WP.seq (WP.region (l := [0, 1, 2]) rfl ?_)
  refine Run.move rfl rfl rfl (.at rfl) ?_
  refine Run.len rfl rfl rfl (.at rfl) is_26 rfl ?_
  refine Run.move rfl rfl rfl (.at rfl) ?_
  refine Run.nil ?_
  refine WP.block ?_
  refine WP.loop (LP.keep (l_indexMap (l := l) hf hl hn (fun h => ?_) (fun h => ?_) n 0 (by omega) rfl) (by repeat (first | exact trivial | refine ⟨rfl, ?_⟩)) (by repeat (first | exact HSub.nil | refine HSub.keep ?_ | refine HSub.dead ?_)))
  rotate_left
  · exact Ends.pure (.tmp rfl .nil) rfl
  refine WP.seq (WP.region (l := [0]) rfl ?_)
  refine Run.assign rfl rfl rfl (.at rfl) ?_
  refine Run.nil ?_
  refine WP.ret ?_
  exact Ends.pure (.tmp rfl .nil) (by rw [badM_ok h]; rfl)
theorem c_containsMap (p : Int) (l : List M3) {n : Nat} {f : FuncId} {cap : List AV} (hf : ∀ m, Pure Try.prog f (m.av :: cap) (.bool (!isM p m))) (hl : n ≤ 4000000) (hn : l.length = n) :
    Pure Try.prog 59 [.imm (cs9 l) n, .fn f cap] (.bool (!mapsOk p l)) := by
  have h : decide (badM p l ≥ 0) = !mapsOk p l := by
    cases hb : mapsOk p l with
    | true => rw [badM_ok hb]; rfl
    | false => simpa using badM_no hb
  refine Pure.body 0 (n := 9) (fn := Try.f59) (c := Try.f59.body.get!) fn_59 rfl nm_59 rfl rfl fun C => ?_
  refine WP.seq (WP.region (l := [0]) rfl ?_)
  refine Run.assign rfl rfl rfl (.at rfl) ?_
  refine Run.nil ?_
  refine WP.seq (WP.region (l := [0, 1, 2, 3, 4]) rfl ?_)
  refine Run.move rfl rfl rfl (.at rfl) ?_
  refine Run.move rfl rfl rfl (.at rfl) ?_
  refine Run.call rfl rfl rfl (.at rfl) (.cons (.at rfl) (.cons (.at rfl) .nil)) (c_indexMap p l hf hl hn) ?_
  refine Run.int rfl rfl rfl (.at rfl) (.at rfl) rfl ?_
  refine Run.assign rfl rfl rfl (.at rfl) ?_
  refine Run.nil ?_
  refine WP.ret ?_
  exact Ends.pure (.tmp rfl .nil) (by rw [← h]; rfl)
theorem c_mapsCode1 (p : Int) (l : List M3) {n : Nat} (hl : n ≤ 4000000) (hn : l.length = n) : Pure Try.prog 58 [.immAt [.imm (cs9 l) n] 0, .immAt [.int .i64 p] 0] (.bool (mapsOk p l)) := by
  refine Pure.body 0 (n := 7) (fn := Try.f58) (c := Try.f58.body.get!) fn_58 rfl nm_58 rfl rfl fun C => ?_
  refine WP.seq (WP.region (l := [0]) rfl ?_)
  refine Run.assign rfl rfl rfl (.at rfl) ?_
  refine Run.nil ?_
  refine WP.seq (WP.region (l := [0, 1, 2, 3, 4]) rfl ?_)
  refine Run.load rfl rfl rfl (.at rfl) .imm sc_26 rfl ?_
  refine Run.closure rfl rfl rfl (.cons (.at rfl) .nil) ?_
  refine Run.call rfl rfl rfl (.at rfl) (.cons (.at rfl) (.cons (.at rfl) .nil)) (c_containsMap p l (fun m => c_mapsCode11 p m) hl hn) ?_
  refine Run.not rfl rfl rfl (.at rfl) ?_
  refine Run.assign rfl rfl rfl (.at rfl) ?_
  refine Run.nil ?_
  refine WP.ret ?_
  exact Ends.pure (.tmp rfl .nil) (by rw [Bool.not_not]; rfl)
theorem c_mapsCode (p : Int) (l : List M3) {n : Nat} (hl : n ≤ 4000000) (hn : l.length = n) : Pure Try.prog 43 [.int .i64 p, .imm (cs9 l) n] (.int .i64 (codeMaps p l)) := by
  refine Pure.body 2 (n := 8) (fn := Try.f43) (c := Try.f43.body.get!) fn_43 rfl nm_43 rfl rfl fun C => ?_
  refine WP.seq (WP.region (l := [0, 1, 2]) rfl ?_)
  refine Run.box 0 rfl rfl rfl (.at rfl) rfl (fun b2 => ?_)
  refine Run.box 1 rfl rfl rfl (.at rfl) rfl (fun b3 => ?_)
  refine Run.assign rfl rfl rfl (.at rfl) ?_
  refine Run.nil ?_
  refine WP.freezeAt 2 rfl rfl ?_
  refine WP.freezeAt 3 rfl rfl ?_
  refine WP.seq (WP.region (l := [0, 1, 2, 3]) rfl ?_)
  refine Run.load rfl rfl rfl (.at rfl) .imm sc_2 rfl ?_
  refine Run.closure rfl rfl rfl (.cons (.at rfl) (.cons (.at rfl) .nil)) ?_
  refine Run.call rfl rfl rfl (.at rfl) (.cons (.at rfl) (.cons (.at rfl) .nil)) (c_planeCode _ _ _ _ (fun _ => c_mapsCode1 p l hl hn)) ?_
  refine Run.assign rfl rfl rfl (.at rfl) ?_
  refine Run.nil ?_
  refine WP.ret ?_
  exact Ends.pure (.tmp rfl .nil) rfl
theorem c_listCode1 (p : Int) (l : List M3) (pts : List V3) {n k : Nat} (hl : n ≤ 2000000) (hn : l.length = n) (hk : k ≤ 2000000) (hpl : pts.length = k) (hp : IsP p) :
    Pure Try.prog 42 [.immAt [.int .i64 p] 0, .immAt [.imm (cs9 l) n] 0, .immAt [.imm (cs3 pts) k] 0] (.bool (mapsOk p l && ptsOk p pts)) := by
  have hc : (codeMaps p l == 0) = mapsOk p l := by
    unfold codeMaps
    rw [isP_iff.2 hp]
    cases mapsOk p l <;> rfl
  refine Pure.body 0 (n := 13) (fn := Try.f42) (c := Try.f42.body.get!) fn_42 rfl nm_42 rfl rfl fun C => ?_
  refine WP.seq (WP.region (l := [0]) rfl ?_)
  refine Run.assign rfl rfl rfl (.at rfl) ?_
  refine Run.nil ?_
  refine WP.seq (WP.region (l := [0, 1, 2, 3, 4, 5, 6, 7, 8, 9]) rfl ?_)
  refine Run.load rfl rfl rfl (.at rfl) .imm sc_2 rfl ?_
  refine Run.load rfl rfl rfl (.at rfl) .imm sc_26 rfl ?_
  refine Run.call rfl rfl rfl (.at rfl) (.cons (.at rfl) (.cons (.at rfl) .nil)) (c_mapsCode p l (by omega) hn) ?_
  refine Run.int rfl rfl rfl (.at rfl) (.at rfl) rfl ?_
  refine Run.move rfl rfl rfl (.at rfl) ?_
  refine' Run.guarded rfl rfl rfl rfl rfl rfl (fun ht => ?_) ?_
  rotate_left
  · skip
    refine Run.load rfl rfl rfl (.at rfl) .imm sc_2 rfl ?_
    exact single_nil
  refine' Run.guarded rfl rfl rfl rfl rfl rfl (fun ht => ?_) ?_
  rotate_left
  · skip
    refine Run.load rfl rfl rfl (.at rfl) .imm sc_51 rfl ?_
    exact single_nil
  refine' Run.guarded rfl rfl rfl rfl rfl rfl (fun ht => ?_) ?_
  rotate_left
  · skip
    refine Run.call rfl rfl rfl (.at rfl) (.cons (.opt rfl ht) (.cons (.opt rfl ht) .nil)) (c_arePoints p pts hp hk hpl) ?_
    exact single_nil
  refine Run.and rfl rfl rfl (.at rfl) (.at rfl) rfl ?_
  refine Run.assign rfl rfl rfl (.at rfl) ?_
  refine Run.nil ?_
  refine WP.ret ?_
  exact Ends.pure (.tmp rfl .nil) (by rw [← hc]; rfl)
theorem c_listCode (p : Int) (l : List M3) (pts : List V3) {n k : Nat} (hl : n ≤ 2000000) (hn : l.length = n) (hk : k ≤ 2000000) (hpl : pts.length = k) :
    Pure Try.prog 25 [.int .i64 p, .imm (cs9 l) n, .imm (cs3 pts) k] (.int .i64 (codeL p l pts)) := by
  refine Pure.body 3 (n := 19) (fn := Try.f25) (c := Try.f25.body.get!) fn_25 rfl nm_25 rfl rfl fun C => ?_
  refine WP.seq (WP.region (l := [0, 1, 2, 3]) rfl ?_)
  refine Run.box 0 rfl rfl rfl (.at rfl) rfl (fun b3 => ?_)
  refine Run.box 1 rfl rfl rfl (.at rfl) rfl (fun b4 => ?_)
  refine Run.box 2 rfl rfl rfl (.at rfl) rfl (fun b5 => ?_)
  refine Run.assign rfl rfl rfl (.at rfl) ?_
  refine Run.nil ?_
  refine WP.freezeAt 3 rfl rfl ?_
  refine WP.freezeAt 4 rfl rfl ?_
  refine WP.freezeAt 5 rfl rfl ?_
  refine WP.seq (WP.region (l := [0, 1, 2, 3]) rfl ?_)
  refine Run.load rfl rfl rfl (.at rfl) .imm sc_2 rfl ?_
  refine Run.closure rfl rfl rfl (.cons (.at rfl) (.cons (.at rfl) (.cons (.at rfl) .nil))) ?_
  refine Run.call rfl rfl rfl (.at rfl) (.cons (.at rfl) (.cons (.at rfl) .nil)) (c_planeCode _ _ _ (mapsOk p l && ptsOk p pts) (fun hp => c_listCode1 p l pts hl hn hk hpl hp)) ?_
  refine Run.assign rfl rfl rfl (.at rfl) ?_
  refine Run.nil ?_
  refine WP.seq ?_
  refine WP.seq (WP.region (l := [0, 1, 2, 3, 4, 5, 6]) rfl ?_)
  refine Run.move rfl rfl rfl (.at rfl) ?_
  refine Run.int rfl rfl rfl (.at rfl) (.at rfl) rfl ?_
  refine Run.move rfl rfl rfl (.at rfl) ?_
  refine' Run.guarded rfl rfl rfl rfl rfl rfl (fun ht => ?_) ?_
  rotate_left
  · skip
    refine Run.load rfl rfl rfl (.at rfl) .imm sc_26 rfl ?_
    exact single_nil
  refine' Run.guarded rfl rfl rfl rfl rfl rfl (fun ht => ?_) ?_
  rotate_left
  · skip
    refine Run.len rfl rfl rfl (.opt rfl ht) is_26 rfl ?_
    exact single_nil
  refine' Run.guarded rfl rfl rfl rfl rfl rfl (fun ht => ?_) ?_
  rotate_left
  · skip
    refine Run.int rfl rfl rfl (.opt rfl ht) (.at rfl) rfl ?_
    exact single_nil
  refine Run.and rfl rfl rfl (.at rfl) (.at rfl) rfl ?_
  refine Run.nil ?_
  refine WP.cond (.at rfl) (fun hc0 => ?_) (fun hc0 => ?_)
  · have h0 : (codeL0 p l pts == 0 && decide ((l.length : Int) > 8)) = true := by rw [hn]; exact hc0
    refine WP.seq (WP.region (l := [0]) rfl ?_)
    refine Run.assign rfl rfl rfl (.at rfl) ?_
    refine Run.nil ?_
    refine WP.ret ?_
    exact Ends.pure (.tmp rfl .nil) (by unfold codeL; rw [h0]; rfl)
  · have h0 : (codeL0 p l pts == 0 && decide ((l.length : Int) > 8)) = false := by rw [hn]; exact hc0
    refine WP.skip ?_
    refine WP.seq (WP.region (l := [0, 1]) rfl ?_)
    refine Run.move rfl rfl rfl (.at rfl) ?_
    refine Run.assign rfl rfl rfl (.at rfl) ?_
    refine Run.nil ?_
    refine WP.ret ?_
    exact Ends.pure (.tmp rfl .nil) (by unfold codeL; rw [h0]; rfl)
theorem c_l10Maps (p : Int) (l : List M3) (pts : List V3) {n k : Nat} (hl : n ≤ 2000000) (hn : l.length = n) (hk : k ≤ 2000000) (hpl : pts.length = k) :
    Pure Try.prog 20 [.int .i64 p, .imm (cs9 l) n, .imm (cs3 pts) k] (.int .i64 (codeL p l pts)) := by
  have two : ∀ c : Int, (if (c == 0 && decide ((l.length : Int) > 8)) = true then (2 : Int) else c) = if (c == 0 && decide ((l.length : Int) > 8)) = true then 2 else c := fun _ => rfl
  refine Pure.body 0 (n := 24) (fn := Try.f20) (c := Try.f20.body.get!) fn_20 rfl nm_20 rfl rfl fun C => ?_
  refine WP.seq (WP.region (l := [0]) rfl ?_)
  refine Run.assign rfl rfl rfl (.at rfl) ?_
  refine Run.nil ?_
  refine WP.seq (WP.region (l := [0, 1, 2, 3]) rfl ?_)
  refine Run.move rfl rfl rfl (.at rfl) ?_
  refine Run.move rfl rfl rfl (.at rfl) ?_
  refine Run.call rfl rfl rfl (.at rfl) (.cons (.at rfl) (.cons (.at rfl) .nil)) (c_l02Code p l (by omega) hn) ?_
  refine Run.assign rfl rfl rfl (.at rfl) ?_
  refine Run.nil ?_
  refine WP.seq ?_
  refine WP.seq (WP.region (l := [0, 1]) rfl ?_)
  refine Run.move rfl rfl rfl (.at rfl) ?_
  refine Run.int rfl rfl rfl (.at rfl) (.at rfl) rfl ?_
  refine Run.nil ?_
  refine WP.cond (.at rfl) (fun hc0 => ?_) (fun hc0 => ?_)
  · have h0 : codeOf p pts = codeL0 p l pts := by
      unfold codeOf codeL0
      simp only [beq_iff_eq, codeMaps] at hc0
      split at hc0 <;> rename_i hP
      · split at hc0 <;> rename_i hM
        · rw [hP, hM]; rfl
        · cases hc0
      · cases hc0
    refine WP.region (l := [0, 1, 2, 3]) rfl ?_
    refine Run.move rfl rfl rfl (.at rfl) ?_
    refine Run.move rfl rfl rfl (.at rfl) ?_
    refine Run.call rfl rfl rfl (.at rfl) (.cons (.at rfl) (.cons (.at rfl) .nil)) (c_l01Code p pts hk hpl) ?_
    refine Run.assign rfl rfl rfl (.at rfl) ?_
    refine Run.nil ?_
    refine WP.seq ?_
    refine WP.seq (WP.region (l := [0, 1, 2, 3, 4, 5, 6]) rfl ?_)
    refine Run.move rfl rfl rfl (.at rfl) ?_
    refine Run.int rfl rfl rfl (.at rfl) (.at rfl) rfl ?_
    refine Run.move rfl rfl rfl (.at rfl) ?_
    refine' Run.guarded rfl rfl rfl rfl rfl rfl (fun ht => ?_) ?_
    rotate_left
    · skip
      refine Run.move rfl rfl rfl (.at rfl) ?_
      exact single_nil
    refine' Run.guarded rfl rfl rfl rfl rfl rfl (fun ht => ?_) ?_
    rotate_left
    · skip
      refine Run.len rfl rfl rfl (.opt rfl ht) is_26 rfl ?_
      exact single_nil
    refine' Run.guarded rfl rfl rfl rfl rfl rfl (fun ht => ?_) ?_
    rotate_left
    · skip
      refine Run.int rfl rfl rfl (.opt rfl ht) (.at rfl) rfl ?_
      exact single_nil
    refine Run.and rfl rfl rfl (.at rfl) (.at rfl) rfl ?_
    refine Run.nil ?_
    refine WP.cond (.at rfl) (fun hc1 => ?_) (fun hc1 => ?_)
    · rw [h0, ← hn] at hc1
      refine WP.region (l := [0]) rfl ?_
      refine Run.assign rfl rfl rfl (.at rfl) ?_
      refine Run.nil ?_
      refine WP.seq (WP.region (l := [0, 1]) rfl ?_)
      refine Run.move rfl rfl rfl (.at rfl) ?_
      refine Run.assign rfl rfl rfl (.at rfl) ?_
      refine Run.nil ?_
      refine WP.ret ?_
      exact Ends.pure (.tmp rfl .nil) (by unfold codeL; rw [hc1]; first | rfl | (rw [← h0]; rfl))
    · rw [h0, ← hn] at hc1
      refine WP.skip ?_
      refine WP.seq (WP.region (l := [0, 1]) rfl ?_)
      refine Run.move rfl rfl rfl (.at rfl) ?_
      refine Run.assign rfl rfl rfl (.at rfl) ?_
      refine Run.nil ?_
      refine WP.ret ?_
      exact Ends.pure (.tmp rfl .nil) (by unfold codeL; rw [hc1]; first | rfl | (rw [← h0]; rfl))
  · have h0 : codeMaps p l = codeL0 p l pts := by
      unfold codeL0
      simp only [beq_eq_false_iff_ne, ne_eq, codeMaps] at hc0
      unfold codeMaps
      cases hP : isP p with
      | false => rfl
      | true =>
        cases hM : mapsOk p l with
        | false => rfl
        | true => rw [hP, hM] at hc0; exact absurd rfl hc0
    refine WP.skip ?_
    refine WP.seq ?_
    refine WP.seq (WP.region (l := [0, 1, 2, 3, 4, 5, 6]) rfl ?_)
    refine Run.move rfl rfl rfl (.at rfl) ?_
    refine Run.int rfl rfl rfl (.at rfl) (.at rfl) rfl ?_
    refine Run.move rfl rfl rfl (.at rfl) ?_
    refine' Run.guarded rfl rfl rfl rfl rfl rfl (fun ht => ?_) ?_
    rotate_left
    · skip
      refine Run.move rfl rfl rfl (.at rfl) ?_
      exact single_nil
    refine' Run.guarded rfl rfl rfl rfl rfl rfl (fun ht => ?_) ?_
    rotate_left
    · skip
      refine Run.len rfl rfl rfl (.opt rfl ht) is_26 rfl ?_
      exact single_nil
    refine' Run.guarded rfl rfl rfl rfl rfl rfl (fun ht => ?_) ?_
    rotate_left
    · skip
      refine Run.int rfl rfl rfl (.opt rfl ht) (.at rfl) rfl ?_
      exact single_nil
    refine Run.and rfl rfl rfl (.at rfl) (.at rfl) rfl ?_
    refine Run.nil ?_
    refine WP.cond (.at rfl) (fun hc1 => ?_) (fun hc1 => ?_)
    · rw [h0, ← hn] at hc1
      refine WP.region (l := [0]) rfl ?_
      refine Run.assign rfl rfl rfl (.at rfl) ?_
      refine Run.nil ?_
      refine WP.seq (WP.region (l := [0, 1]) rfl ?_)
      refine Run.move rfl rfl rfl (.at rfl) ?_
      refine Run.assign rfl rfl rfl (.at rfl) ?_
      refine Run.nil ?_
      refine WP.ret ?_
      exact Ends.pure (.tmp rfl .nil) (by unfold codeL; rw [hc1]; first | rfl | (rw [← h0]; rfl))
    · rw [h0, ← hn] at hc1
      refine WP.skip ?_
      refine WP.seq (WP.region (l := [0, 1]) rfl ?_)
      refine Run.move rfl rfl rfl (.at rfl) ?_
      refine Run.assign rfl rfl rfl (.at rfl) ?_
      refine Run.nil ?_
      refine WP.ret ?_
      exact Ends.pure (.tmp rfl .nil) (by unfold codeL; rw [hc1]; first | rfl | (rw [← h0]; rfl))
end Go.Ab
