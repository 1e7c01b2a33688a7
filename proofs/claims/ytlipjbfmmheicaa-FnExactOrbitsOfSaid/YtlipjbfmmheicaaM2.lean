/- The walks of the plain law's maps: what is a map; the codes of maps. -/
import Derived.Test.YtlipjbfmmheicaaM1
namespace Go.Ab
open Go.Proofs
theorem c_l02Is (p : Int) (m : M3) : Pure Try.prog 54 [.int .i64 p, m.av] (.bool (isM p m)) := by
  refine Pure.body 1 (n := 38) (fn := Try.f54) (c := Try.f54.body.get!) fn_54 rfl nm_54 rfl rfl fun C => ?_
  refine WP.seq (WP.region (l := [0, 1]) rfl ?_)
  refine Run.box 0 rfl rfl rfl (.at rfl) rfl (fun b3 => ?_)
  refine Run.assign rfl rfl rfl (.at rfl) ?_
  refine Run.nil ?_
  refine WP.seq ?_
  refine WP.seq (WP.region (l := [0, 1, 2]) rfl ?_)
  refine Run.move rfl rfl rfl (.at rfl) ?_
  refine Run.call rfl rfl rfl (.at rfl) (.cons (.at rfl) .nil) (c_l01Prime _) ?_
  refine Run.not rfl rfl rfl (.at rfl) ?_
  refine Run.nil ?_
  refine WP.cond (.at rfl) (fun hc0 => ?_) (fun hc0 => ?_)
  · have h0 : isP p = false := by simpa using hc0
    refine WP.seq (WP.region (l := [0]) rfl ?_)
    refine Run.assign rfl rfl rfl (.at rfl) ?_
    refine Run.nil ?_
    refine WP.ret ?_
    exact Ends.pure (.tmp rfl .nil) (by unfold isM; rw [h0]; rfl)
  · have h0 : isP p = true := by simpa using hc0
    have hp := isP_iff.1 h0
    have hb := hp.bd
    refine WP.skip ?_
    refine WP.seq ?_
    refine WP.seq (WP.region (l := [0]) rfl ?_)
    refine Run.assign rfl rfl rfl (.at rfl) ?_
    refine Run.nil ?_
    refine WP.block ?_
    refine WP.loop ?_
    refine LP.trim (fr' := [(0, _), (3, _), (5, _)]) (H' := [[(_, [_, _, _, _, _, _, _, _, _])]]) ?_ ⟨rfl, rfl, rfl, trivial⟩ rfl
    refine LP.round ?_
    refine WP.seq ?_
    refine WP.seq (WP.region (l := [0, 1]) rfl ?_)
    refine Run.move rfl rfl rfl (.at rfl) ?_
    refine Run.int rfl rfl rfl (.at rfl) (.at rfl) rfl ?_
    refine Run.nil ?_
    refine WP.cond_t (.at rfl) rfl ?_
    refine WP.skip ?_
    refine WP.seq ?_
    refine WP.block ?_
    refine WP.seq (WP.region (l := [0]) rfl ?_)
    refine Run.assign rfl rfl rfl (.at rfl) ?_
    refine Run.nil ?_
    refine WP.block ?_
    refine WP.loop ?_
    refine LP.trim (fr' := [(0, _), (3, _), (5, _), (6, _)]) (H' := [[(_, [_, _, _, _, _, _, _, _, _])]]) ?_ ⟨rfl, rfl, rfl, rfl, trivial⟩ rfl
    refine LP.round ?_
    refine WP.seq ?_
    refine WP.seq (WP.region (l := [0, 1]) rfl ?_)
    refine Run.move rfl rfl rfl (.at rfl) ?_
    refine Run.int rfl rfl rfl (.at rfl) (.at rfl) rfl ?_
    refine Run.nil ?_
    refine WP.cond_t (.at rfl) rfl ?_
    refine WP.skip ?_
    refine WP.seq ?_
    refine WP.block ?_
    refine WP.seq (WP.region (l := [0, 1, 2, 3, 4, 5, 6, 7, 8]) rfl ?_)
    refine Run.move rfl rfl rfl (.at rfl) ?_
    refine Run.move rfl rfl rfl (.at rfl) ?_
    refine Run.idx_arr (j := 0) rfl rfl rfl (.at rfl) (.at rfl) ar_44_3_3 (by rfl) (by decide) ?_
    refine Run.idx_arr (j := 0) rfl rfl rfl (.at rfl) (.at rfl) ar_30_3_1 (by rfl) (by decide) ?_
    refine Run.load rfl rfl rfl (.at rfl) (place_adr rfl) sc_2 rfl ?_
    refine Run.move rfl rfl rfl (.at rfl) ?_
    refine Run.sub rfl rfl rfl (.at rfl) (.at rfl) (by omega) ?_
    refine Run.call rfl rfl rfl (.at rfl) (.cons (.at rfl) (.cons (.at rfl) (.cons (.at rfl) .nil))) (c_l01In _ _ _) ?_
    refine Run.not rfl rfl rfl (.at rfl) ?_
    refine Run.nil ?_
    refine WP.cond (.at rfl) (fun hc3_0_0 => ?_) (fun hc3_0_0 => ?_)
    · have hx3 := hc3_0_0
      rw [Bool.not_eq_true'] at hx3
      have h3 : allIn p m.l = false := allIn_no (by simp [M3.l, V3.l]) hx3
      refine WP.seq (WP.region (l := [0]) rfl ?_)
      refine Run.assign rfl rfl rfl (.at rfl) ?_
      refine Run.nil ?_
      refine WP.ret ?_
      exact Ends.pure (.tmp rfl .nil) (by unfold isM nrm; rw [h3, Bool.false_and, Bool.false_and, Bool.and_false]; rfl)
    · have h3_0_0 := hc3_0_0
      rw [Bool.not_eq_false'] at h3_0_0
      refine WP.skip ?_
      refine WP.region (l := [0, 1, 2]) rfl ?_
      refine Run.move rfl rfl rfl (.at rfl) ?_
      refine Run.add rfl rfl rfl (.at rfl) (.at rfl) (by omega) ?_
      refine Run.assign rfl rfl rfl (.at rfl) ?_
      refine Run.nil ?_
      refine LP.trim (fr' := [(0, _), (3, _), (5, _), (6, _)]) (H' := [[(_, [_, _, _, _, _, _, _, _, _])]]) ?_ ⟨rfl, rfl, rfl, rfl, trivial⟩ rfl
      refine LP.round ?_
      refine WP.seq ?_
      refine WP.seq (WP.region (l := [0, 1]) rfl ?_)
      refine Run.move rfl rfl rfl (.at rfl) ?_
      refine Run.int rfl rfl rfl (.at rfl) (.at rfl) rfl ?_
      refine Run.nil ?_
      refine WP.cond_t (.at rfl) rfl ?_
      refine WP.skip ?_
      refine WP.seq ?_
      refine WP.block ?_
      refine WP.seq (WP.region (l := [0, 1, 2, 3, 4, 5, 6, 7, 8]) rfl ?_)
      refine Run.move rfl rfl rfl (.at rfl) ?_
      refine Run.move rfl rfl rfl (.at rfl) ?_
      refine Run.idx_arr (j := 0) rfl rfl rfl (.at rfl) (.at rfl) ar_44_3_3 (by rfl) (by decide) ?_
      refine Run.idx_arr (j := 1) rfl rfl rfl (.at rfl) (.at rfl) ar_30_3_1 (by rfl) (by decide) ?_
      refine Run.load rfl rfl rfl (.at rfl) (place_adr rfl) sc_2 rfl ?_
      refine Run.move rfl rfl rfl (.at rfl) ?_
      refine Run.sub rfl rfl rfl (.at rfl) (.at rfl) (by omega) ?_
      refine Run.call rfl rfl rfl (.at rfl) (.cons (.at rfl) (.cons (.at rfl) (.cons (.at rfl) .nil))) (c_l01In _ _ _) ?_
      refine Run.not rfl rfl rfl (.at rfl) ?_
      refine Run.nil ?_
      refine WP.cond (.at rfl) (fun hc3_0_1 => ?_) (fun hc3_0_1 => ?_)
      · have hx3 := hc3_0_1
        rw [Bool.not_eq_true'] at hx3
        have h3 : allIn p m.l = false := allIn_no (by simp [M3.l, V3.l]) hx3
        refine WP.seq (WP.region (l := [0]) rfl ?_)
        refine Run.assign rfl rfl rfl (.at rfl) ?_
        refine Run.nil ?_
        refine WP.ret ?_
        exact Ends.pure (.tmp rfl .nil) (by unfold isM nrm; rw [h3, Bool.false_and, Bool.false_and, Bool.and_false]; rfl)
      · have h3_0_1 := hc3_0_1
        rw [Bool.not_eq_false'] at h3_0_1
        refine WP.skip ?_
        refine WP.region (l := [0, 1, 2]) rfl ?_
        refine Run.move rfl rfl rfl (.at rfl) ?_
        refine Run.add rfl rfl rfl (.at rfl) (.at rfl) (by omega) ?_
        refine Run.assign rfl rfl rfl (.at rfl) ?_
        refine Run.nil ?_
        refine LP.trim (fr' := [(0, _), (3, _), (5, _), (6, _)]) (H' := [[(_, [_, _, _, _, _, _, _, _, _])]]) ?_ ⟨rfl, rfl, rfl, rfl, trivial⟩ rfl
        refine LP.round ?_
        refine WP.seq ?_
        refine WP.seq (WP.region (l := [0, 1]) rfl ?_)
        refine Run.move rfl rfl rfl (.at rfl) ?_
        refine Run.int rfl rfl rfl (.at rfl) (.at rfl) rfl ?_
        refine Run.nil ?_
        refine WP.cond_t (.at rfl) rfl ?_
        refine WP.skip ?_
        refine WP.seq ?_
        refine WP.block ?_
        refine WP.seq (WP.region (l := [0, 1, 2, 3, 4, 5, 6, 7, 8]) rfl ?_)
        refine Run.move rfl rfl rfl (.at rfl) ?_
        refine Run.move rfl rfl rfl (.at rfl) ?_
        refine Run.idx_arr (j := 0) rfl rfl rfl (.at rfl) (.at rfl) ar_44_3_3 (by rfl) (by decide) ?_
        refine Run.idx_arr (j := 2) rfl rfl rfl (.at rfl) (.at rfl) ar_30_3_1 (by rfl) (by decide) ?_
        refine Run.load rfl rfl rfl (.at rfl) (place_adr rfl) sc_2 rfl ?_
        refine Run.move rfl rfl rfl (.at rfl) ?_
        refine Run.sub rfl rfl rfl (.at rfl) (.at rfl) (by omega) ?_
        refine Run.call rfl rfl rfl (.at rfl) (.cons (.at rfl) (.cons (.at rfl) (.cons (.at rfl) .nil))) (c_l01In _ _ _) ?_
        refine Run.not rfl rfl rfl (.at rfl) ?_
        refine Run.nil ?_
        refine WP.cond (.at rfl) (fun hc3_0_2 => ?_) (fun hc3_0_2 => ?_)
        · have hx3 := hc3_0_2
          rw [Bool.not_eq_true'] at hx3
          have h3 : allIn p m.l = false := allIn_no (by simp [M3.l, V3.l]) hx3
          refine WP.seq (WP.region (l := [0]) rfl ?_)
          refine Run.assign rfl rfl rfl (.at rfl) ?_
          refine Run.nil ?_
          refine WP.ret ?_
          exact Ends.pure (.tmp rfl .nil) (by unfold isM nrm; rw [h3, Bool.false_and, Bool.false_and, Bool.and_false]; rfl)
        · have h3_0_2 := hc3_0_2
          rw [Bool.not_eq_false'] at h3_0_2
          refine WP.skip ?_
          refine WP.region (l := [0, 1, 2]) rfl ?_
          refine Run.move rfl rfl rfl (.at rfl) ?_
          refine Run.add rfl rfl rfl (.at rfl) (.at rfl) (by omega) ?_
          refine Run.assign rfl rfl rfl (.at rfl) ?_
          refine Run.nil ?_
          refine LP.trim (fr' := [(0, _), (3, _), (5, _), (6, _)]) (H' := [[(_, [_, _, _, _, _, _, _, _, _])]]) ?_ ⟨rfl, rfl, rfl, rfl, trivial⟩ rfl
          refine LP.round ?_
          refine WP.seq ?_
          refine WP.seq (WP.region (l := [0, 1]) rfl ?_)
          refine Run.move rfl rfl rfl (.at rfl) ?_
          refine Run.int rfl rfl rfl (.at rfl) (.at rfl) rfl ?_
          refine Run.nil ?_
          refine WP.cond_f (.at rfl) rfl ?_
          refine WP.exit ?_
          refine WP.region (l := [0, 1, 2]) rfl ?_
          refine Run.move rfl rfl rfl (.at rfl) ?_
          refine Run.add rfl rfl rfl (.at rfl) (.at rfl) (by omega) ?_
          refine Run.assign rfl rfl rfl (.at rfl) ?_
          refine Run.nil ?_
          refine LP.trim (fr' := [(0, _), (3, _), (5, _)]) (H' := [[(_, [_, _, _, _, _, _, _, _, _])]]) ?_ ⟨rfl, rfl, rfl, trivial⟩ rfl
          refine LP.round ?_
          refine WP.seq ?_
          refine WP.seq (WP.region (l := [0, 1]) rfl ?_)
          refine Run.move rfl rfl rfl (.at rfl) ?_
          refine Run.int rfl rfl rfl (.at rfl) (.at rfl) rfl ?_
          refine Run.nil ?_
          refine WP.cond_t (.at rfl) rfl ?_
          refine WP.skip ?_
          refine WP.seq ?_
          refine WP.block ?_
          refine WP.seq (WP.region (l := [0]) rfl ?_)
          refine Run.assign rfl rfl rfl (.at rfl) ?_
          refine Run.nil ?_
          refine WP.block ?_
          refine WP.loop ?_
          refine LP.trim (fr' := [(0, _), (3, _), (5, _), (6, _)]) (H' := [[(_, [_, _, _, _, _, _, _, _, _])]]) ?_ ⟨rfl, rfl, rfl, rfl, trivial⟩ rfl
          refine LP.round ?_
          refine WP.seq ?_
          refine WP.seq (WP.region (l := [0, 1]) rfl ?_)
          refine Run.move rfl rfl rfl (.at rfl) ?_
          refine Run.int rfl rfl rfl (.at rfl) (.at rfl) rfl ?_
          refine Run.nil ?_
          refine WP.cond_t (.at rfl) rfl ?_
          refine WP.skip ?_
          refine WP.seq ?_
          refine WP.block ?_
          refine WP.seq (WP.region (l := [0, 1, 2, 3, 4, 5, 6, 7, 8]) rfl ?_)
          refine Run.move rfl rfl rfl (.at rfl) ?_
          refine Run.move rfl rfl rfl (.at rfl) ?_
          refine Run.idx_arr (j := 1) rfl rfl rfl (.at rfl) (.at rfl) ar_44_3_3 (by rfl) (by decide) ?_
          refine Run.idx_arr (j := 0) rfl rfl rfl (.at rfl) (.at rfl) ar_30_3_1 (by rfl) (by decide) ?_
          refine Run.load rfl rfl rfl (.at rfl) (place_adr rfl) sc_2 rfl ?_
          refine Run.move rfl rfl rfl (.at rfl) ?_
          refine Run.sub rfl rfl rfl (.at rfl) (.at rfl) (by omega) ?_
          refine Run.call rfl rfl rfl (.at rfl) (.cons (.at rfl) (.cons (.at rfl) (.cons (.at rfl) .nil))) (c_l01In _ _ _) ?_
          refine Run.not rfl rfl rfl (.at rfl) ?_
          refine Run.nil ?_
          refine WP.cond (.at rfl) (fun hc3_1_0 => ?_) (fun hc3_1_0 => ?_)
          · have hx3 := hc3_1_0
            rw [Bool.not_eq_true'] at hx3
            have h3 : allIn p m.l = false := allIn_no (by simp [M3.l, V3.l]) hx3
            refine WP.seq (WP.region (l := [0]) rfl ?_)
            refine Run.assign rfl rfl rfl (.at rfl) ?_
            refine Run.nil ?_
            refine WP.ret ?_
            exact Ends.pure (.tmp rfl .nil) (by unfold isM nrm; rw [h3, Bool.false_and, Bool.false_and, Bool.and_false]; rfl)
          · have h3_1_0 := hc3_1_0
            rw [Bool.not_eq_false'] at h3_1_0
            refine WP.skip ?_
            refine WP.region (l := [0, 1, 2]) rfl ?_
            refine Run.move rfl rfl rfl (.at rfl) ?_
            refine Run.add rfl rfl rfl (.at rfl) (.at rfl) (by omega) ?_
            refine Run.assign rfl rfl rfl (.at rfl) ?_
            refine Run.nil ?_
            refine LP.trim (fr' := [(0, _), (3, _), (5, _), (6, _)]) (H' := [[(_, [_, _, _, _, _, _, _, _, _])]]) ?_ ⟨rfl, rfl, rfl, rfl, trivial⟩ rfl
            refine LP.round ?_
            refine WP.seq ?_
            refine WP.seq (WP.region (l := [0, 1]) rfl ?_)
            refine Run.move rfl rfl rfl (.at rfl) ?_
            refine Run.int rfl rfl rfl (.at rfl) (.at rfl) rfl ?_
            refine Run.nil ?_
            refine WP.cond_t (.at rfl) rfl ?_
            refine WP.skip ?_
            refine WP.seq ?_
            refine WP.block ?_
            refine WP.seq (WP.region (l := [0, 1, 2, 3, 4, 5, 6, 7, 8]) rfl ?_)
            refine Run.move rfl rfl rfl (.at rfl) ?_
            refine Run.move rfl rfl rfl (.at rfl) ?_
            refine Run.idx_arr (j := 1) rfl rfl rfl (.at rfl) (.at rfl) ar_44_3_3 (by rfl) (by decide) ?_
            refine Run.idx_arr (j := 1) rfl rfl rfl (.at rfl) (.at rfl) ar_30_3_1 (by rfl) (by decide) ?_
            refine Run.load rfl rfl rfl (.at rfl) (place_adr rfl) sc_2 rfl ?_
            refine Run.move rfl rfl rfl (.at rfl) ?_
            refine Run.sub rfl rfl rfl (.at rfl) (.at rfl) (by omega) ?_
            refine Run.call rfl rfl rfl (.at rfl) (.cons (.at rfl) (.cons (.at rfl) (.cons (.at rfl) .nil))) (c_l01In _ _ _) ?_
            refine Run.not rfl rfl rfl (.at rfl) ?_
            refine Run.nil ?_
            refine WP.cond (.at rfl) (fun hc3_1_1 => ?_) (fun hc3_1_1 => ?_)
            · have hx3 := hc3_1_1
              rw [Bool.not_eq_true'] at hx3
              have h3 : allIn p m.l = false := allIn_no (by simp [M3.l, V3.l]) hx3
              refine WP.seq (WP.region (l := [0]) rfl ?_)
              refine Run.assign rfl rfl rfl (.at rfl) ?_
              refine Run.nil ?_
              refine WP.ret ?_
              exact Ends.pure (.tmp rfl .nil) (by unfold isM nrm; rw [h3, Bool.false_and, Bool.false_and, Bool.and_false]; rfl)
            · have h3_1_1 := hc3_1_1
              rw [Bool.not_eq_false'] at h3_1_1
              refine WP.skip ?_
              refine WP.region (l := [0, 1, 2]) rfl ?_
              refine Run.move rfl rfl rfl (.at rfl) ?_
              refine Run.add rfl rfl rfl (.at rfl) (.at rfl) (by omega) ?_
              refine Run.assign rfl rfl rfl (.at rfl) ?_
              refine Run.nil ?_
              refine LP.trim (fr' := [(0, _), (3, _), (5, _), (6, _)]) (H' := [[(_, [_, _, _, _, _, _, _, _, _])]]) ?_ ⟨rfl, rfl, rfl, rfl, trivial⟩ rfl
              refine LP.round ?_
              refine WP.seq ?_
              refine WP.seq (WP.region (l := [0, 1]) rfl ?_)
              refine Run.move rfl rfl rfl (.at rfl) ?_
              refine Run.int rfl rfl rfl (.at rfl) (.at rfl) rfl ?_
              refine Run.nil ?_
              refine WP.cond_t (.at rfl) rfl ?_
              refine WP.skip ?_
              refine WP.seq ?_
              refine WP.block ?_
              refine WP.seq (WP.region (l := [0, 1, 2, 3, 4, 5, 6, 7, 8]) rfl ?_)
              refine Run.move rfl rfl rfl (.at rfl) ?_
              refine Run.move rfl rfl rfl (.at rfl) ?_
              refine Run.idx_arr (j := 1) rfl rfl rfl (.at rfl) (.at rfl) ar_44_3_3 (by rfl) (by decide) ?_
              refine Run.idx_arr (j := 2) rfl rfl rfl (.at rfl) (.at rfl) ar_30_3_1 (by rfl) (by decide) ?_
              refine Run.load rfl rfl rfl (.at rfl) (place_adr rfl) sc_2 rfl ?_
              refine Run.move rfl rfl rfl (.at rfl) ?_
              refine Run.sub rfl rfl rfl (.at rfl) (.at rfl) (by omega) ?_
              refine Run.call rfl rfl rfl (.at rfl) (.cons (.at rfl) (.cons (.at rfl) (.cons (.at rfl) .nil))) (c_l01In _ _ _) ?_
              refine Run.not rfl rfl rfl (.at rfl) ?_
              refine Run.nil ?_
              refine WP.cond (.at rfl) (fun hc3_1_2 => ?_) (fun hc3_1_2 => ?_)
              · have hx3 := hc3_1_2
                rw [Bool.not_eq_true'] at hx3
                have h3 : allIn p m.l = false := allIn_no (by simp [M3.l, V3.l]) hx3
                refine WP.seq (WP.region (l := [0]) rfl ?_)
                refine Run.assign rfl rfl rfl (.at rfl) ?_
                refine Run.nil ?_
                refine WP.ret ?_
                exact Ends.pure (.tmp rfl .nil) (by unfold isM nrm; rw [h3, Bool.false_and, Bool.false_and, Bool.and_false]; rfl)
              · have h3_1_2 := hc3_1_2
                rw [Bool.not_eq_false'] at h3_1_2
                refine WP.skip ?_
                refine WP.region (l := [0, 1, 2]) rfl ?_
                refine Run.move rfl rfl rfl (.at rfl) ?_
                refine Run.add rfl rfl rfl (.at rfl) (.at rfl) (by omega) ?_
                refine Run.assign rfl rfl rfl (.at rfl) ?_
                refine Run.nil ?_
                refine LP.trim (fr' := [(0, _), (3, _), (5, _), (6, _)]) (H' := [[(_, [_, _, _, _, _, _, _, _, _])]]) ?_ ⟨rfl, rfl, rfl, rfl, trivial⟩ rfl
                refine LP.round ?_
                refine WP.seq ?_
                refine WP.seq (WP.region (l := [0, 1]) rfl ?_)
                refine Run.move rfl rfl rfl (.at rfl) ?_
                refine Run.int rfl rfl rfl (.at rfl) (.at rfl) rfl ?_
                refine Run.nil ?_
                refine WP.cond_f (.at rfl) rfl ?_
                refine WP.exit ?_
                refine WP.region (l := [0, 1, 2]) rfl ?_
                refine Run.move rfl rfl rfl (.at rfl) ?_
                refine Run.add rfl rfl rfl (.at rfl) (.at rfl) (by omega) ?_
                refine Run.assign rfl rfl rfl (.at rfl) ?_
                refine Run.nil ?_
                refine LP.trim (fr' := [(0, _), (3, _), (5, _)]) (H' := [[(_, [_, _, _, _, _, _, _, _, _])]]) ?_ ⟨rfl, rfl, rfl, trivial⟩ rfl
                refine LP.round ?_
                refine WP.seq ?_
                refine WP.seq (WP.region (l := [0, 1]) rfl ?_)
                refine Run.move rfl rfl rfl (.at rfl) ?_
                refine Run.int rfl rfl rfl (.at rfl) (.at rfl) rfl ?_
                refine Run.nil ?_
                refine WP.cond_t (.at rfl) rfl ?_
                refine WP.skip ?_
                refine WP.seq ?_
                refine WP.block ?_
                refine WP.seq (WP.region (l := [0]) rfl ?_)
                refine Run.assign rfl rfl rfl (.at rfl) ?_
                refine Run.nil ?_
                refine WP.block ?_
                refine WP.loop ?_
                refine LP.trim (fr' := [(0, _), (3, _), (5, _), (6, _)]) (H' := [[(_, [_, _, _, _, _, _, _, _, _])]]) ?_ ⟨rfl, rfl, rfl, rfl, trivial⟩ rfl
                refine LP.round ?_
                refine WP.seq ?_
                refine WP.seq (WP.region (l := [0, 1]) rfl ?_)
                refine Run.move rfl rfl rfl (.at rfl) ?_
                refine Run.int rfl rfl rfl (.at rfl) (.at rfl) rfl ?_
                refine Run.nil ?_
                refine WP.cond_t (.at rfl) rfl ?_
                refine WP.skip ?_
                refine WP.seq ?_
                refine WP.block ?_
                refine WP.seq (WP.region (l := [0, 1, 2, 3, 4, 5, 6, 7, 8]) rfl ?_)
                refine Run.move rfl rfl rfl (.at rfl) ?_
                refine Run.move rfl rfl rfl (.at rfl) ?_
                refine Run.idx_arr (j := 2) rfl rfl rfl (.at rfl) (.at rfl) ar_44_3_3 (by rfl) (by decide) ?_
                refine Run.idx_arr (j := 0) rfl rfl rfl (.at rfl) (.at rfl) ar_30_3_1 (by rfl) (by decide) ?_
                refine Run.load rfl rfl rfl (.at rfl) (place_adr rfl) sc_2 rfl ?_
                refine Run.move rfl rfl rfl (.at rfl) ?_
                refine Run.sub rfl rfl rfl (.at rfl) (.at rfl) (by omega) ?_
                refine Run.call rfl rfl rfl (.at rfl) (.cons (.at rfl) (.cons (.at rfl) (.cons (.at rfl) .nil))) (c_l01In _ _ _) ?_
                refine Run.not rfl rfl rfl (.at rfl) ?_
                refine Run.nil ?_
                refine WP.cond (.at rfl) (fun hc3_2_0 => ?_) (fun hc3_2_0 => ?_)
                · have hx3 := hc3_2_0
                  rw [Bool.not_eq_true'] at hx3
                  have h3 : allIn p m.l = false := allIn_no (by simp [M3.l, V3.l]) hx3
                  refine WP.seq (WP.region (l := [0]) rfl ?_)
                  refine Run.assign rfl rfl rfl (.at rfl) ?_
                  refine Run.nil ?_
                  refine WP.ret ?_
                  exact Ends.pure (.tmp rfl .nil) (by unfold isM nrm; rw [h3, Bool.false_and, Bool.false_and, Bool.and_false]; rfl)
                · have h3_2_0 := hc3_2_0
                  rw [Bool.not_eq_false'] at h3_2_0
                  refine WP.skip ?_
                  refine WP.region (l := [0, 1, 2]) rfl ?_
                  refine Run.move rfl rfl rfl (.at rfl) ?_
                  refine Run.add rfl rfl rfl (.at rfl) (.at rfl) (by omega) ?_
                  refine Run.assign rfl rfl rfl (.at rfl) ?_
                  refine Run.nil ?_
                  refine LP.trim (fr' := [(0, _), (3, _), (5, _), (6, _)]) (H' := [[(_, [_, _, _, _, _, _, _, _, _])]]) ?_ ⟨rfl, rfl, rfl, rfl, trivial⟩ rfl
                  refine LP.round ?_
                  refine WP.seq ?_
                  refine WP.seq (WP.region (l := [0, 1]) rfl ?_)
                  refine Run.move rfl rfl rfl (.at rfl) ?_
                  refine Run.int rfl rfl rfl (.at rfl) (.at rfl) rfl ?_
                  refine Run.nil ?_
                  refine WP.cond_t (.at rfl) rfl ?_
                  refine WP.skip ?_
                  refine WP.seq ?_
                  refine WP.block ?_
                  refine WP.seq (WP.region (l := [0, 1, 2, 3, 4, 5, 6, 7, 8]) rfl ?_)
                  refine Run.move rfl rfl rfl (.at rfl) ?_
                  refine Run.move rfl rfl rfl (.at rfl) ?_
                  refine Run.idx_arr (j := 2) rfl rfl rfl (.at rfl) (.at rfl) ar_44_3_3 (by rfl) (by decide) ?_
                  refine Run.idx_arr (j := 1) rfl rfl rfl (.at rfl) (.at rfl) ar_30_3_1 (by rfl) (by decide) ?_
                  refine Run.load rfl rfl rfl (.at rfl) (place_adr rfl) sc_2 rfl ?_
                  refine Run.move rfl rfl rfl (.at rfl) ?_
                  refine Run.sub rfl rfl rfl (.at rfl) (.at rfl) (by omega) ?_
                  refine Run.call rfl rfl rfl (.at rfl) (.cons (.at rfl) (.cons (.at rfl) (.cons (.at rfl) .nil))) (c_l01In _ _ _) ?_
                  refine Run.not rfl rfl rfl (.at rfl) ?_
                  refine Run.nil ?_
                  refine WP.cond (.at rfl) (fun hc3_2_1 => ?_) (fun hc3_2_1 => ?_)
                  · have hx3 := hc3_2_1
                    rw [Bool.not_eq_true'] at hx3
                    have h3 : allIn p m.l = false := allIn_no (by simp [M3.l, V3.l]) hx3
                    refine WP.seq (WP.region (l := [0]) rfl ?_)
                    refine Run.assign rfl rfl rfl (.at rfl) ?_
                    refine Run.nil ?_
                    refine WP.ret ?_
                    exact Ends.pure (.tmp rfl .nil) (by unfold isM nrm; rw [h3, Bool.false_and, Bool.false_and, Bool.and_false]; rfl)
                  · have h3_2_1 := hc3_2_1
                    rw [Bool.not_eq_false'] at h3_2_1
                    refine WP.skip ?_
                    refine WP.region (l := [0, 1, 2]) rfl ?_
                    refine Run.move rfl rfl rfl (.at rfl) ?_
                    refine Run.add rfl rfl rfl (.at rfl) (.at rfl) (by omega) ?_
                    refine Run.assign rfl rfl rfl (.at rfl) ?_
                    refine Run.nil ?_
                    refine LP.trim (fr' := [(0, _), (3, _), (5, _), (6, _)]) (H' := [[(_, [_, _, _, _, _, _, _, _, _])]]) ?_ ⟨rfl, rfl, rfl, rfl, trivial⟩ rfl
                    refine LP.round ?_
                    refine WP.seq ?_
                    refine WP.seq (WP.region (l := [0, 1]) rfl ?_)
                    refine Run.move rfl rfl rfl (.at rfl) ?_
                    refine Run.int rfl rfl rfl (.at rfl) (.at rfl) rfl ?_
                    refine Run.nil ?_
                    refine WP.cond_t (.at rfl) rfl ?_
                    refine WP.skip ?_
                    refine WP.seq ?_
                    refine WP.block ?_
                    refine WP.seq (WP.region (l := [0, 1, 2, 3, 4, 5, 6, 7, 8]) rfl ?_)
                    refine Run.move rfl rfl rfl (.at rfl) ?_
                    refine Run.move rfl rfl rfl (.at rfl) ?_
                    refine Run.idx_arr (j := 2) rfl rfl rfl (.at rfl) (.at rfl) ar_44_3_3 (by rfl) (by decide) ?_
                    refine Run.idx_arr (j := 2) rfl rfl rfl (.at rfl) (.at rfl) ar_30_3_1 (by rfl) (by decide) ?_
                    refine Run.load rfl rfl rfl (.at rfl) (place_adr rfl) sc_2 rfl ?_
                    refine Run.move rfl rfl rfl (.at rfl) ?_
                    refine Run.sub rfl rfl rfl (.at rfl) (.at rfl) (by omega) ?_
                    refine Run.call rfl rfl rfl (.at rfl) (.cons (.at rfl) (.cons (.at rfl) (.cons (.at rfl) .nil))) (c_l01In _ _ _) ?_
                    refine Run.not rfl rfl rfl (.at rfl) ?_
                    refine Run.nil ?_
                    refine WP.cond (.at rfl) (fun hc3_2_2 => ?_) (fun hc3_2_2 => ?_)
                    · have hx3 := hc3_2_2
                      rw [Bool.not_eq_true'] at hx3
                      have h3 : allIn p m.l = false := allIn_no (by simp [M3.l, V3.l]) hx3
                      refine WP.seq (WP.region (l := [0]) rfl ?_)
                      refine Run.assign rfl rfl rfl (.at rfl) ?_
                      refine Run.nil ?_
                      refine WP.ret ?_
                      exact Ends.pure (.tmp rfl .nil) (by unfold isM nrm; rw [h3, Bool.false_and, Bool.false_and, Bool.and_false]; rfl)
                    · have h3_2_2 := hc3_2_2
                      rw [Bool.not_eq_false'] at h3_2_2
                      refine WP.skip ?_
                      refine WP.region (l := [0, 1, 2]) rfl ?_
                      refine Run.move rfl rfl rfl (.at rfl) ?_
                      refine Run.add rfl rfl rfl (.at rfl) (.at rfl) (by omega) ?_
                      refine Run.assign rfl rfl rfl (.at rfl) ?_
                      refine Run.nil ?_
                      refine LP.trim (fr' := [(0, _), (3, _), (5, _), (6, _)]) (H' := [[(_, [_, _, _, _, _, _, _, _, _])]]) ?_ ⟨rfl, rfl, rfl, rfl, trivial⟩ rfl
                      refine LP.round ?_
                      refine WP.seq ?_
                      refine WP.seq (WP.region (l := [0, 1]) rfl ?_)
                      refine Run.move rfl rfl rfl (.at rfl) ?_
                      refine Run.int rfl rfl rfl (.at rfl) (.at rfl) rfl ?_
                      refine Run.nil ?_
                      refine WP.cond_f (.at rfl) rfl ?_
                      refine WP.exit ?_
                      refine WP.region (l := [0, 1, 2]) rfl ?_
                      refine Run.move rfl rfl rfl (.at rfl) ?_
                      refine Run.add rfl rfl rfl (.at rfl) (.at rfl) (by omega) ?_
                      refine Run.assign rfl rfl rfl (.at rfl) ?_
                      refine Run.nil ?_
                      refine LP.trim (fr' := [(0, _), (3, _), (5, _)]) (H' := [[(_, [_, _, _, _, _, _, _, _, _])]]) ?_ ⟨rfl, rfl, rfl, trivial⟩ rfl
                      refine LP.round ?_
                      refine WP.seq ?_
                      refine WP.seq (WP.region (l := [0, 1]) rfl ?_)
                      refine Run.move rfl rfl rfl (.at rfl) ?_
                      refine Run.int rfl rfl rfl (.at rfl) (.at rfl) rfl ?_
                      refine Run.nil ?_
                      refine WP.cond_f (.at rfl) rfl ?_
                      refine WP.exit ?_
                      have hin : allIn p m.l = true := by
                        unfold allIn
                        rw [List.all_eq_true]
                        intro x hx
                        simp only [M3.l, V3.l, List.cons_append, List.nil_append, List.mem_cons, List.not_mem_nil, or_false] at hx
                        rcases hx with rfl | rfl | rfl | rfl | rfl | rfl | rfl | rfl | rfl <;> (unfold inR; assumption)
                      have hm := M3.sm_of hp hin
                      refine WP.seq (WP.draw mx_0 ?_)
                      refine Drawn.calmR ?_
                      refine' DrawR.op 0 27 0 [(0, none)] rfl rfl (fun rest => ?_) ?_
                      rotate_left
                      · skip
                        refine Run.move rfl rfl rfl (.at rfl) ?_
                        exact single_nil
                      refine' DrawR.op 1 28 1 [(3, none)] rfl rfl (fun rest => ?_) ?_
                      rotate_left
                      · skip
                        refine Run.loads rfl rfl rfl (.at rfl) (place_adr rfl) ag_44_9 rfl rfl ?_
                        exact single_nil
                      refine' DrawR.op 2 29 2 [(27, some 1), (28, some 0)] rfl rfl (fun rest => ?_) ?_
                      rotate_left
                      · skip
                        refine Run.call rfl rfl rfl (.at rfl) (.cons (.at rfl) (.cons (.at rfl) .nil)) (c_l02Det _ _ hp hm) ?_
                        exact single_nil
                      refine' DrawR.op 3 30 3 [(29, some 0)] rfl rfl (fun rest => ?_) ?_
                      rotate_left
                      · skip
                        refine Run.int rfl rfl rfl (.at rfl) (.at rfl) rfl ?_
                        exact single_nil
                      refine' DrawR.op 4 31 4 [(30, some 0)] rfl rfl (fun rest => ?_) ?_
                      rotate_left
                      · skip
                        refine Run.move rfl rfl rfl (.at rfl) ?_
                        exact single_nil
                      refine' DrawR.op 5 32 5 [(0, none), (31, some 0)] rfl rfl (fun rest => ?_) ?_
                      rotate_left
                      · skip
                        refine' Run.guarded rfl rfl rfl rfl rfl rfl (fun ht => ?_) ?_
                        rotate_left
                        · skip
                          refine Run.move rfl rfl rfl (.at rfl) ?_
                          exact single_nil
                        exact single_nil
                      refine' DrawR.op 6 33 6 [(3, none), (31, some 1)] rfl rfl (fun rest => ?_) ?_
                      rotate_left
                      · skip
                        refine' Run.guarded rfl rfl rfl rfl rfl rfl (fun ht => ?_) ?_
                        rotate_left
                        · skip
                          refine Run.loads rfl rfl rfl (.at rfl) (place_adr rfl) ag_44_9 rfl rfl ?_
                          exact single_nil
                        exact single_nil
                      refine' DrawR.op 7 34 7 [(32, some 1), (33, some 0), (31, some 2)] rfl rfl (fun rest => ?_) ?_
                      rotate_left
                      · skip
                        refine' Run.guarded rfl rfl rfl rfl rfl rfl (fun ht => ?_) ?_
                        rotate_left
                        · skip
                          refine Run.call rfl rfl rfl (.at rfl) (.cons (.opt rfl ht) (.cons (.opt rfl ht) .nil)) (c_l02Normal _ _ hp) ?_
                          exact single_nil
                        exact single_nil
                      refine' DrawR.op 8 35 8 [(3, none), (31, some 3)] rfl rfl (fun rest => ?_) ?_
                      rotate_left
                      · skip
                        refine' Run.guarded rfl rfl rfl rfl rfl rfl (fun ht => ?_) ?_
                        rotate_left
                        · skip
                          refine Run.loads rfl rfl rfl (.at rfl) (place_adr rfl) ag_44_9 rfl rfl ?_
                          exact single_nil
                        exact single_nil
                      refine' DrawR.op 9 36 9 [(34, some 1), (35, some 0), (31, some 4)] rfl rfl (fun rest => ?_) ?_
                      rotate_left
                      · skip
                        refine' Run.guarded rfl rfl rfl rfl rfl rfl (fun ht => ?_) ?_
                        rotate_left
                        · skip
                          refine Run.eqlA (.arr 3 3 (.arr 3 1 (.int .i64))) (nM p m).l m.l rfl rfl rfl (.opt rfl ht) (.opt rfl ht) eq_44 rfl rfl ?_
                          exact single_nil
                        exact single_nil
                      refine' DrawR.op 10 37 10 [(31, some 5), (36, some 0)] rfl rfl (fun rest => ?_) ?_
                      rotate_left
                      · skip
                        refine Run.and rfl rfl rfl (.at rfl) (.at rfl) rfl ?_
                        exact single_nil
                      refine' DrawR.op 11 4 11 [(37, some 0)] rfl rfl (fun rest => ?_) ?_
                      rotate_left
                      · skip
                        refine Run.assign rfl rfl rfl (.at rfl) ?_
                        exact single_nil
                      refine DrawR.tail [] rfl (by kernel_rfl) ?_
                      refine Run.nil ?_
                      refine WP.ret ?_
                      exact Ends.pure (.tmp rfl .nil) (by rw [isM_alt hp, hin, Bool.true_and]; simp only [M3.l_inj]; rfl)
theorem l_l02Code {C : Cx Try.prog 22} {Q : Post} {p : Int} {l : List M3} {n : Nat} (hl : n ≤ 4000000) (hn : l.length = n)
    (hQ : mapsOk p l = true → Q (.exit 0) ⟨[], []⟩) (hR : mapsOk p l = false → Q .ret ⟨[(4, .int .i64 1)], []⟩) :
    ∀ (d k : Nat), k + d = n → mapsOk p l = mapsOk p (l.drop k) → LP C (nav Try.f37.body.get! [1, 1, 0, 1, 0, 0]) Q ⟨[(0, .int .i64 p), (1, .imm (cs9 l) n), (5, .int .i64 k)], []⟩ := by
  intro d
  induction d with
  | zero =>
    intro k hd he
    have he' : mapsOk p l = true := by rw [he, List.drop_eq_nil_of_le (by omega)]; rfl
    refine LP.round ?_
    refine WP.seq ?_
    refine WP.seq (WP.region (l := [0, 1, 2, 3]) rfl ?_)
    refine Run.move rfl rfl rfl (.at rfl) ?_
    refine Run.move rfl rfl rfl (.at rfl) ?_
    refine Run.len rfl rfl rfl (.at rfl) is_26 rfl ?_
    refine Run.int rfl rfl rfl (.at rfl) (.at rfl) rfl ?_
    refine Run.nil ?_
    refine WP.cond_f (.at rfl) (by simp; omega) ?_
    exact WP.keep (WP.exit (hQ he')) (by repeat (first | exact trivial | refine ⟨rfl, ?_⟩)) (by repeat (first | exact HSub.nil | refine HSub.keep ?_ | refine HSub.dead ?_))
  | succ d ih =>
    intro k hd he
    have hk : k < l.length := by omega
    rw [drop9 hk] at he
    refine LP.round ?_
    refine WP.seq ?_
    refine WP.seq (WP.region (l := [0, 1, 2, 3]) rfl ?_)
    refine Run.move rfl rfl rfl (.at rfl) ?_
    refine Run.move rfl rfl rfl (.at rfl) ?_
    refine Run.len rfl rfl rfl (.at rfl) is_26 rfl ?_
    refine Run.int rfl rfl rfl (.at rfl) (.at rfl) rfl ?_
    refine Run.nil ?_
    refine WP.cond_t (.at rfl) (by simp; omega) ?_
    refine WP.skip ?_
    refine WP.seq ?_
    refine WP.block ?_
    refine WP.seq (WP.region (l := [0, 1, 2, 3, 4, 5, 6]) rfl ?_)
    refine Run.move rfl rfl rfl (.at rfl) ?_
    refine Run.move rfl rfl rfl (.at rfl) ?_
    refine Run.move rfl rfl rfl (.at rfl) ?_
    refine Run.idx_imm (j := k) rfl rfl rfl (.at rfl) (.at rfl) sl_26_9 rfl (show k < n by omega) ?_
    refine Run.loads rfl rfl rfl (.at rfl) .imm ag_44_9 (cs9_get hk) rfl ?_
    refine Run.call rfl rfl rfl (.at rfl) (.cons (.at rfl) (.cons (.at rfl) .nil)) (c_l02Is _ _) ?_
    refine Run.not rfl rfl rfl (.at rfl) ?_
    refine Run.nil ?_
    refine WP.cond (.at rfl) (fun hc2 => ?_) (fun hc2 => ?_)
    · have he' : mapsOk p l = false := by rw [he]; simp only [Bool.not_eq_true'] at hc2; simp only [mapsOk, List.all_cons, hc2, Bool.false_and]
      refine WP.seq (WP.region (l := [0]) rfl ?_)
      refine Run.assign rfl rfl rfl (.at rfl) ?_
      refine Run.nil ?_
      exact WP.keep (WP.ret (hR he')) (by repeat (first | exact trivial | refine ⟨rfl, ?_⟩)) (by repeat (first | exact HSub.nil | refine HSub.keep ?_ | refine HSub.dead ?_))
    · have he' : mapsOk p l = mapsOk p (l.drop (k + 1)) := by rw [he]; simp only [Bool.not_eq_false'] at hc2; simp only [mapsOk, List.all_cons, hc2, Bool.true_and]
      refine WP.skip ?_
      refine WP.region (l := [0, 1, 2]) rfl ?_
      refine Run.move rfl rfl rfl (.at rfl) ?_
      refine Run.add rfl rfl rfl (.at rfl) (.at rfl) (by omega) ?_
      refine Run.assign rfl rfl rfl (.at rfl) ?_
      refine Run.nil ?_
      exact LP.keep (ih (k + 1) (by omega) he') (by repeat (first | exact trivial | refine ⟨rfl, ?_⟩)) (by repeat (first | exact HSub.nil | refine HSub.keep ?_ | refine HSub.dead ?_))
theorem c_l02Code (p : Int) (l : List M3) {n : Nat} (hl : n ≤ 4000000) (hn : l.length = n) : Pure Try.prog 37 [.int .i64 p, .imm (cs9 l) n] (.int .i64 (codeMaps p l)) := by
  refine Pure.body 0 (n := 22) (fn := Try.f37) (c := Try.f37.body.get!) fn_37 rfl nm_37 rfl rfl fun C => ?_
  refine WP.seq (WP.region (l := [0]) rfl ?_)
  refine Run.assign rfl rfl rfl (.at rfl) ?_
  refine Run.nil ?_
  refine WP.seq ?_
  refine WP.seq (WP.region (l := [0, 1, 2]) rfl ?_)
  refine Run.move rfl rfl rfl (.at rfl) ?_
  refine Run.call rfl rfl rfl (.at rfl) (.cons (.at rfl) .nil) (c_l01Prime _) ?_
  refine Run.not rfl rfl rfl (.at rfl) ?_
  refine Run.nil ?_
  refine WP.cond (.at rfl) (fun hc0 => ?_) (fun hc0 => ?_)
  · have h0 : isP p = false := by simpa using hc0
    refine WP.seq (WP.region (l := [0]) rfl ?_)
    refine Run.assign rfl rfl rfl (.at rfl) ?_
    refine Run.nil ?_
    refine WP.ret ?_
    exact Ends.pure (.tmp rfl .nil) (by unfold codeMaps; rw [h0]; rfl)
  · have h0 : isP p = true := by simpa using hc0
    refine WP.skip ?_
    refine WP.seq ?_
    refine WP.seq (WP.region (l := [0]) rfl ?_)
    refine Run.assign rfl rfl rfl (.at rfl) ?_
    refine Run.nil ?_
    refine WP.block ?_
    refine WP.loop (LP.keep (l_l02Code (l := l) hl hn (fun h => ?_) (fun h => ?_) n 0 (by omega) rfl) (by repeat (first | exact trivial | refine ⟨rfl, ?_⟩)) (by repeat (first | exact HSub.nil | refine HSub.keep ?_ | refine HSub.dead ?_)))
    rotate_left
    · exact Ends.pure (.tmp rfl .nil) (by unfold codeMaps; rw [h0, h]; rfl)
    refine WP.seq (WP.region (l := [0]) rfl ?_)
    refine Run.assign rfl rfl rfl (.at rfl) ?_
    refine Run.nil ?_
    refine WP.ret ?_
    exact Ends.pure (.tmp rfl .nil) (by unfold codeMaps; rw [h0, h]; rfl)
end Go.Ab
