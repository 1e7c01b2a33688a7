/- The walks of four points of which no three are on a line. -/
import Derived.Test.YtkffdmmpemonaaaP8
import Derived.Test.YtkffdmmpemonaaaD1
namespace Go.Ab
open Go.Proofs

theorem l_isFrame4 {C : Cx Try.prog 38} {Q : Post} {p : Int} {a b c d : V3} (hQ : Q (.exit 0) ⟨[(1, .imm (cs3 [a, b, c, d]) 4)], [[]]⟩) :
    LP C (nav Try.f19.body.get! [1, 0, 1, 0, 0]) Q ⟨[(0, .int .i64 p), (1, .imm (cs3 [a, b, c, d]) 4), (8, .int .i64 4), (9, .int .i64 4)], [[]]⟩ := by
  refine LP.round ?_
  refine WP.seq (WP.region (l := [0]) rfl ?_)
  refine Run.int rfl rfl rfl (.at rfl) (.at rfl) rfl ?_
  refine Run.nil ?_
  refine WP.seq ?_
  refine WP.cond_f (.at rfl) rfl ?_
  exact WP.keep (WP.exit hQ) (by repeat (first | exact trivial | refine ⟨rfl, ?_⟩)) (by repeat (first | exact HSub.nil | refine HSub.keep ?_ | refine HSub.dead ?_))
theorem l_isFrame3 {C : Cx Try.prog 38} {Q : Post} {p : Int} {a b c d : V3} (hp : IsP p) (ha : a.sm) (hb : b.sm) (hc : c.sm) (hd : d.sm)
    (hR : (det a b c % p == 0) = true → Q .ret ⟨[(4, .bool false)], [[]]⟩) (hN : (det a b c % p == 0) = false → LP C (nav Try.f19.body.get! [1, 0, 1, 0, 0]) Q ⟨[(0, .int .i64 p), (1, .imm (cs3 [a, b, c, d]) 4), (7, .imm (cs3 [a, b, c, d]) 4), (8, .int .i64 4), (9, .int .i64 4)], [[]]⟩) :
    LP C (nav Try.f19.body.get! [1, 0, 1, 0, 0]) Q ⟨[(0, .int .i64 p), (1, .imm (cs3 [a, b, c, d]) 4), (7, .imm (cs3 [a, b, c, d]) 4), (8, .int .i64 4), (9, .int .i64 3)], [[]]⟩ := by
  have _use := And.intro (And.intro ha hb) (And.intro hc hd)
  refine LP.round ?_
  refine WP.seq (WP.region (l := [0]) rfl ?_)
  refine Run.int rfl rfl rfl (.at rfl) (.at rfl) rfl ?_
  refine Run.nil ?_
  refine WP.seq ?_
  refine WP.cond_t (.at rfl) rfl ?_
  refine WP.skip ?_
  refine WP.seq ?_
  refine WP.block ?_
  refine WP.seq (WP.region (l := [0, 1]) rfl ?_)
  refine Run.move rfl rfl rfl (.at rfl) ?_
  refine Run.assign rfl rfl rfl (.at rfl) ?_
  refine Run.nil ?_
  refine WP.seq (WP.region (l := [0, 1, 2, 3, 4, 5, 6]) rfl ?_)
  refine Run.move rfl rfl rfl (.at rfl) ?_
  refine Run.acts [] [0] rfl rfl rfl (.at rfl) (.cons (.at rfl) .nil) (LendL.refl _ _) (c_cloneP 0 3 [a, b, c, d] (by decide) rfl) rfl rfl rfl (fun x H h => ?_) (fun x H h => ?_)
  · obtain ⟨bb, rfl, rfl⟩ := h
    exact ⟨rfl, rfl⟩
  obtain ⟨bb, rfl, rfl⟩ := h
  refine Run.move rfl rfl rfl (.at rfl) ?_
  refine Run.move rfl rfl rfl (.at rfl) ?_
  refine Run.add rfl rfl rfl (.at rfl) (.at rfl) (by omega) ?_
  refine Run.acts [0] [0] rfl rfl rfl (.at rfl) (.cons (.at rfl) (.cons (.at rfl) (.cons (.at rfl) .nil))) (LendL.refl _ _) (c_delP 0 bb 4 4 3 true [a, b, c, d] (by decide) rfl (by decide) (by decide) (by decide)) rfl rfl rfl (fun x H h => ?_) (fun x H h => ?_)
  · obtain ⟨rfl, rfl⟩ := h
    exact ⟨rfl, rfl⟩
  obtain ⟨rfl, rfl⟩ := h
  refine Run.assign rfl rfl rfl (.at rfl) ?_
  refine Run.nil ?_
  refine WP.seq (WP.draw mx_0 ?_)
  refine Drawn.calmR ?_
  refine' DrawR.op 0 18 0 [(1, none)] rfl rfl (fun rest => ?_) ?_
  rotate_left
  · skip
    refine Run.move rfl rfl rfl (.at rfl) ?_
    exact single_nil
  refine' DrawR.op 1 19 1 [(18, some 0)] rfl rfl (fun rest => ?_) ?_
  rotate_left
  · skip
    refine Run.len rfl rfl rfl (.at rfl) is_24 rfl ?_
    exact single_nil
  refine' DrawR.op 2 20 2 [(19, some 0)] rfl rfl (fun rest => ?_) ?_
  rotate_left
  · skip
    refine Run.int rfl rfl rfl (.at rfl) (.at rfl) rfl ?_
    exact single_nil
  refine' DrawR.op 3 21 3 [(20, some 0)] rfl rfl (fun rest => ?_) ?_
  rotate_left
  · skip
    refine Run.move rfl rfl rfl (.at rfl) ?_
    exact single_nil
  refine' DrawR.op 4 22 4 [(0, none), (21, some 0)] rfl rfl (fun rest => ?_) ?_
  rotate_left
  · skip
    refine' Run.guarded rfl rfl rfl rfl rfl rfl (fun ht => ?_) ?_
    rotate_left
    · skip
      refine Run.move rfl rfl rfl (.at rfl) ?_
      exact single_nil
    exact single_nil
  refine' DrawR.op 5 23 5 [(6, none), (21, some 1)] rfl rfl (fun rest => ?_) ?_
  rotate_left
  · skip
    refine' Run.guarded rfl rfl rfl rfl rfl rfl (fun ht => ?_) ?_
    rotate_left
    · skip
      refine Run.move rfl rfl rfl (.at rfl) ?_
      exact single_nil
    exact single_nil
  refine' DrawR.op 6 24 6 [(23, some 0), (21, some 2)] rfl rfl (fun rest => ?_) ?_
  rotate_left
  · skip
    refine' Run.guarded rfl rfl rfl rfl rfl rfl (fun ht => ?_) ?_
    rotate_left
    · skip
      refine Run.idx (j := 0) rfl rfl rfl (.opt rfl ht) (.at rfl) sl_24_3 (by rfl) (by decide) ?_
      exact single_nil
    exact single_nil
  refine' DrawR.op 7 25 7 [(24, some 0), (21, some 3)] rfl rfl (fun rest => ?_) ?_
  rotate_left
  · skip
    refine' Run.guarded rfl rfl rfl rfl rfl rfl (fun ht => ?_) ?_
    rotate_left
    · skip
      refine Run.loads rfl rfl rfl (.opt rfl ht) (place_adr rfl) ag_37_3 (show _ = (a).cs from rfl) rfl ?_
      exact single_nil
    exact single_nil
  refine' DrawR.op 8 26 8 [(6, none), (21, some 4)] rfl rfl (fun rest => ?_) ?_
  rotate_left
  · skip
    refine' Run.guarded rfl rfl rfl rfl rfl rfl (fun ht => ?_) ?_
    rotate_left
    · skip
      refine Run.move rfl rfl rfl (.at rfl) ?_
      exact single_nil
    exact single_nil
  refine' DrawR.op 9 27 9 [(26, some 0), (21, some 5)] rfl rfl (fun rest => ?_) ?_
  rotate_left
  · skip
    refine' Run.guarded rfl rfl rfl rfl rfl rfl (fun ht => ?_) ?_
    rotate_left
    · skip
      refine Run.idx (j := 1) rfl rfl rfl (.opt rfl ht) (.at rfl) sl_24_3 (by rfl) (by decide) ?_
      exact single_nil
    exact single_nil
  refine' DrawR.op 10 28 10 [(27, some 0), (21, some 6)] rfl rfl (fun rest => ?_) ?_
  rotate_left
  · skip
    refine' Run.guarded rfl rfl rfl rfl rfl rfl (fun ht => ?_) ?_
    rotate_left
    · skip
      refine Run.loads rfl rfl rfl (.opt rfl ht) (place_adr rfl) ag_37_3 (show _ = (b).cs from rfl) rfl ?_
      exact single_nil
    exact single_nil
  refine' DrawR.op 11 29 11 [(6, none), (21, some 7)] rfl rfl (fun rest => ?_) ?_
  rotate_left
  · skip
    refine' Run.guarded rfl rfl rfl rfl rfl rfl (fun ht => ?_) ?_
    rotate_left
    · skip
      refine Run.move rfl rfl rfl (.at rfl) ?_
      exact single_nil
    exact single_nil
  refine' DrawR.op 12 30 12 [(29, some 0), (21, some 8)] rfl rfl (fun rest => ?_) ?_
  rotate_left
  · skip
    refine' Run.guarded rfl rfl rfl rfl rfl rfl (fun ht => ?_) ?_
    rotate_left
    · skip
      refine Run.idx (j := 2) rfl rfl rfl (.opt rfl ht) (.at rfl) sl_24_3 (by rfl) (by decide) ?_
      exact single_nil
    exact single_nil
  refine' DrawR.op 13 31 13 [(30, some 0), (21, some 9)] rfl rfl (fun rest => ?_) ?_
  rotate_left
  · skip
    refine' Run.guarded rfl rfl rfl rfl rfl rfl (fun ht => ?_) ?_
    rotate_left
    · skip
      refine Run.loads rfl rfl rfl (.opt rfl ht) (place_adr rfl) ag_37_3 (show _ = (c).cs from rfl) rfl ?_
      exact single_nil
    exact single_nil
  refine' DrawR.op 14 32 14 [(22, some 9), (25, some 6), (28, some 3), (31, some 0), (21, some 10)] rfl rfl (fun rest => ?_) ?_
  rotate_left
  · skip
    refine' Run.guarded rfl rfl rfl rfl rfl rfl (fun ht => ?_) ?_
    rotate_left
    · skip
      refine Run.call rfl rfl rfl (.at rfl) (.cons (.opt rfl ht) (.cons (.opt rfl ht) (.cons (.opt rfl ht) (.cons (.opt rfl ht) .nil)))) (c_collinear p a b c hp ha hb hc) ?_
      exact single_nil
    exact single_nil
  refine' DrawR.op 15 33 15 [(21, some 11), (32, some 0)] rfl rfl (fun rest => ?_) ?_
  rotate_left
  · skip
    refine Run.or rfl rfl rfl (.at rfl) (.at rfl) rfl ?_
    exact single_nil
  refine DrawR.tail [] rfl (by kernel_rfl) ?_
  refine Run.nil ?_
  refine WP.cond (.at rfl) (fun hc1 => ?_) (fun hc1 => ?_)
  · have h1 : (det a b c % p == 0) = true := hc1
    refine WP.seq (WP.region (l := [0]) rfl ?_)
    refine Run.assign rfl rfl rfl (.at rfl) ?_
    refine Run.nil ?_
    exact WP.keep (WP.ret (hR h1)) (by repeat (first | exact trivial | refine ⟨rfl, ?_⟩)) (by repeat (first | exact HSub.nil | refine HSub.keep ?_ | refine HSub.dead ?_))
  · have h1 : (det a b c % p == 0) = false := hc1
    refine WP.skip ?_
    refine WP.region (l := [0, 1]) rfl ?_
    refine Run.add rfl rfl rfl (.at rfl) (.at rfl) (by omega) ?_
    refine Run.move rfl rfl rfl (.at rfl) ?_
    refine Run.nil ?_
    exact LP.keep (hN h1) (by repeat (first | exact trivial | refine ⟨rfl, ?_⟩)) (by repeat (first | exact HSub.nil | refine HSub.keep ?_ | refine HSub.dead ?_))
theorem l_isFrame2 {C : Cx Try.prog 38} {Q : Post} {p : Int} {a b c d : V3} (hp : IsP p) (ha : a.sm) (hb : b.sm) (hc : c.sm) (hd : d.sm)
    (hR : (det a b d % p == 0) = true → Q .ret ⟨[(4, .bool false)], [[]]⟩) (hN : (det a b d % p == 0) = false → LP C (nav Try.f19.body.get! [1, 0, 1, 0, 0]) Q ⟨[(0, .int .i64 p), (1, .imm (cs3 [a, b, c, d]) 4), (7, .imm (cs3 [a, b, c, d]) 4), (8, .int .i64 4), (9, .int .i64 3)], [[]]⟩) :
    LP C (nav Try.f19.body.get! [1, 0, 1, 0, 0]) Q ⟨[(0, .int .i64 p), (1, .imm (cs3 [a, b, c, d]) 4), (7, .imm (cs3 [a, b, c, d]) 4), (8, .int .i64 4), (9, .int .i64 2)], [[]]⟩ := by
  have _use := And.intro (And.intro ha hb) (And.intro hc hd)
  refine LP.round ?_
  refine WP.seq (WP.region (l := [0]) rfl ?_)
  refine Run.int rfl rfl rfl (.at rfl) (.at rfl) rfl ?_
  refine Run.nil ?_
  refine WP.seq ?_
  refine WP.cond_t (.at rfl) rfl ?_
  refine WP.skip ?_
  refine WP.seq ?_
  refine WP.block ?_
  refine WP.seq (WP.region (l := [0, 1]) rfl ?_)
  refine Run.move rfl rfl rfl (.at rfl) ?_
  refine Run.assign rfl rfl rfl (.at rfl) ?_
  refine Run.nil ?_
  refine WP.seq (WP.region (l := [0, 1, 2, 3, 4, 5, 6]) rfl ?_)
  refine Run.move rfl rfl rfl (.at rfl) ?_
  refine Run.acts [] [0] rfl rfl rfl (.at rfl) (.cons (.at rfl) .nil) (LendL.refl _ _) (c_cloneP 0 3 [a, b, c, d] (by decide) rfl) rfl rfl rfl (fun x H h => ?_) (fun x H h => ?_)
  · obtain ⟨bb, rfl, rfl⟩ := h
    exact ⟨rfl, rfl⟩
  obtain ⟨bb, rfl, rfl⟩ := h
  refine Run.move rfl rfl rfl (.at rfl) ?_
  refine Run.move rfl rfl rfl (.at rfl) ?_
  refine Run.add rfl rfl rfl (.at rfl) (.at rfl) (by omega) ?_
  refine Run.acts [0] [0] rfl rfl rfl (.at rfl) (.cons (.at rfl) (.cons (.at rfl) (.cons (.at rfl) .nil))) (LendL.refl _ _) (c_delP 0 bb 4 4 2 true [a, b, c, d] (by decide) rfl (by decide) (by decide) (by decide)) rfl rfl rfl (fun x H h => ?_) (fun x H h => ?_)
  · obtain ⟨rfl, rfl⟩ := h
    exact ⟨rfl, rfl⟩
  obtain ⟨rfl, rfl⟩ := h
  refine Run.assign rfl rfl rfl (.at rfl) ?_
  refine Run.nil ?_
  refine WP.seq (WP.draw mx_0 ?_)
  refine Drawn.calmR ?_
  refine' DrawR.op 0 18 0 [(1, none)] rfl rfl (fun rest => ?_) ?_
  rotate_left
  · skip
    refine Run.move rfl rfl rfl (.at rfl) ?_
    exact single_nil
  refine' DrawR.op 1 19 1 [(18, some 0)] rfl rfl (fun rest => ?_) ?_
  rotate_left
  · skip
    refine Run.len rfl rfl rfl (.at rfl) is_24 rfl ?_
    exact single_nil
  refine' DrawR.op 2 20 2 [(19, some 0)] rfl rfl (fun rest => ?_) ?_
  rotate_left
  · skip
    refine Run.int rfl rfl rfl (.at rfl) (.at rfl) rfl ?_
    exact single_nil
  refine' DrawR.op 3 21 3 [(20, some 0)] rfl rfl (fun rest => ?_) ?_
  rotate_left
  · skip
    refine Run.move rfl rfl rfl (.at rfl) ?_
    exact single_nil
  refine' DrawR.op 4 22 4 [(0, none), (21, some 0)] rfl rfl (fun rest => ?_) ?_
  rotate_left
  · skip
    refine' Run.guarded rfl rfl rfl rfl rfl rfl (fun ht => ?_) ?_
    rotate_left
    · skip
      refine Run.move rfl rfl rfl (.at rfl) ?_
      exact single_nil
    exact single_nil
  refine' DrawR.op 5 23 5 [(6, none), (21, some 1)] rfl rfl (fun rest => ?_) ?_
  rotate_left
  · skip
    refine' Run.guarded rfl rfl rfl rfl rfl rfl (fun ht => ?_) ?_
    rotate_left
    · skip
      refine Run.move rfl rfl rfl (.at rfl) ?_
      exact single_nil
    exact single_nil
  refine' DrawR.op 6 24 6 [(23, some 0), (21, some 2)] rfl rfl (fun rest => ?_) ?_
  rotate_left
  · skip
    refine' Run.guarded rfl rfl rfl rfl rfl rfl (fun ht => ?_) ?_
    rotate_left
    · skip
      refine Run.idx (j := 0) rfl rfl rfl (.opt rfl ht) (.at rfl) sl_24_3 (by rfl) (by decide) ?_
      exact single_nil
    exact single_nil
  refine' DrawR.op 7 25 7 [(24, some 0), (21, some 3)] rfl rfl (fun rest => ?_) ?_
  rotate_left
  · skip
    refine' Run.guarded rfl rfl rfl rfl rfl rfl (fun ht => ?_) ?_
    rotate_left
    · skip
      refine Run.loads rfl rfl rfl (.opt rfl ht) (place_adr rfl) ag_37_3 (show _ = (a).cs from rfl) rfl ?_
      exact single_nil
    exact single_nil
  refine' DrawR.op 8 26 8 [(6, none), (21, some 4)] rfl rfl (fun rest => ?_) ?_
  rotate_left
  · skip
    refine' Run.guarded rfl rfl rfl rfl rfl rfl (fun ht => ?_) ?_
    rotate_left
    · skip
      refine Run.move rfl rfl rfl (.at rfl) ?_
      exact single_nil
    exact single_nil
  refine' DrawR.op 9 27 9 [(26, some 0), (21, some 5)] rfl rfl (fun rest => ?_) ?_
  rotate_left
  · skip
    refine' Run.guarded rfl rfl rfl rfl rfl rfl (fun ht => ?_) ?_
    rotate_left
    · skip
      refine Run.idx (j := 1) rfl rfl rfl (.opt rfl ht) (.at rfl) sl_24_3 (by rfl) (by decide) ?_
      exact single_nil
    exact single_nil
  refine' DrawR.op 10 28 10 [(27, some 0), (21, some 6)] rfl rfl (fun rest => ?_) ?_
  rotate_left
  · skip
    refine' Run.guarded rfl rfl rfl rfl rfl rfl (fun ht => ?_) ?_
    rotate_left
    · skip
      refine Run.loads rfl rfl rfl (.opt rfl ht) (place_adr rfl) ag_37_3 (show _ = (b).cs from rfl) rfl ?_
      exact single_nil
    exact single_nil
  refine' DrawR.op 11 29 11 [(6, none), (21, some 7)] rfl rfl (fun rest => ?_) ?_
  rotate_left
  · skip
    refine' Run.guarded rfl rfl rfl rfl rfl rfl (fun ht => ?_) ?_
    rotate_left
    · skip
      refine Run.move rfl rfl rfl (.at rfl) ?_
      exact single_nil
    exact single_nil
  refine' DrawR.op 12 30 12 [(29, some 0), (21, some 8)] rfl rfl (fun rest => ?_) ?_
  rotate_left
  · skip
    refine' Run.guarded rfl rfl rfl rfl rfl rfl (fun ht => ?_) ?_
    rotate_left
    · skip
      refine Run.idx (j := 2) rfl rfl rfl (.opt rfl ht) (.at rfl) sl_24_3 (by rfl) (by decide) ?_
      exact single_nil
    exact single_nil
  refine' DrawR.op 13 31 13 [(30, some 0), (21, some 9)] rfl rfl (fun rest => ?_) ?_
  rotate_left
  · skip
    refine' Run.guarded rfl rfl rfl rfl rfl rfl (fun ht => ?_) ?_
    rotate_left
    · skip
      refine Run.loads rfl rfl rfl (.opt rfl ht) (place_adr rfl) ag_37_3 (show _ = (d).cs from rfl) rfl ?_
      exact single_nil
    exact single_nil
  refine' DrawR.op 14 32 14 [(22, some 9), (25, some 6), (28, some 3), (31, some 0), (21, some 10)] rfl rfl (fun rest => ?_) ?_
  rotate_left
  · skip
    refine' Run.guarded rfl rfl rfl rfl rfl rfl (fun ht => ?_) ?_
    rotate_left
    · skip
      refine Run.call rfl rfl rfl (.at rfl) (.cons (.opt rfl ht) (.cons (.opt rfl ht) (.cons (.opt rfl ht) (.cons (.opt rfl ht) .nil)))) (c_collinear p a b d hp ha hb hd) ?_
      exact single_nil
    exact single_nil
  refine' DrawR.op 15 33 15 [(21, some 11), (32, some 0)] rfl rfl (fun rest => ?_) ?_
  rotate_left
  · skip
    refine Run.or rfl rfl rfl (.at rfl) (.at rfl) rfl ?_
    exact single_nil
  refine DrawR.tail [] rfl (by kernel_rfl) ?_
  refine Run.nil ?_
  refine WP.cond (.at rfl) (fun hc1 => ?_) (fun hc1 => ?_)
  · have h1 : (det a b d % p == 0) = true := hc1
    refine WP.seq (WP.region (l := [0]) rfl ?_)
    refine Run.assign rfl rfl rfl (.at rfl) ?_
    refine Run.nil ?_
    exact WP.keep (WP.ret (hR h1)) (by repeat (first | exact trivial | refine ⟨rfl, ?_⟩)) (by repeat (first | exact HSub.nil | refine HSub.keep ?_ | refine HSub.dead ?_))
  · have h1 : (det a b d % p == 0) = false := hc1
    refine WP.skip ?_
    refine WP.region (l := [0, 1]) rfl ?_
    refine Run.add rfl rfl rfl (.at rfl) (.at rfl) (by omega) ?_
    refine Run.move rfl rfl rfl (.at rfl) ?_
    refine Run.nil ?_
    exact LP.keep (hN h1) (by repeat (first | exact trivial | refine ⟨rfl, ?_⟩)) (by repeat (first | exact HSub.nil | refine HSub.keep ?_ | refine HSub.dead ?_))
theorem l_isFrame1 {C : Cx Try.prog 38} {Q : Post} {p : Int} {a b c d : V3} (hp : IsP p) (ha : a.sm) (hb : b.sm) (hc : c.sm) (hd : d.sm)
    (hR : (det a c d % p == 0) = true → Q .ret ⟨[(4, .bool false)], [[]]⟩) (hN : (det a c d % p == 0) = false → LP C (nav Try.f19.body.get! [1, 0, 1, 0, 0]) Q ⟨[(0, .int .i64 p), (1, .imm (cs3 [a, b, c, d]) 4), (7, .imm (cs3 [a, b, c, d]) 4), (8, .int .i64 4), (9, .int .i64 2)], [[]]⟩) :
    LP C (nav Try.f19.body.get! [1, 0, 1, 0, 0]) Q ⟨[(0, .int .i64 p), (1, .imm (cs3 [a, b, c, d]) 4), (7, .imm (cs3 [a, b, c, d]) 4), (8, .int .i64 4), (9, .int .i64 1)], [[]]⟩ := by
  have _use := And.intro (And.intro ha hb) (And.intro hc hd)
  refine LP.round ?_
  refine WP.seq (WP.region (l := [0]) rfl ?_)
  refine Run.int rfl rfl rfl (.at rfl) (.at rfl) rfl ?_
  refine Run.nil ?_
  refine WP.seq ?_
  refine WP.cond_t (.at rfl) rfl ?_
  refine WP.skip ?_
  refine WP.seq ?_
  refine WP.block ?_
  refine WP.seq (WP.region (l := [0, 1]) rfl ?_)
  refine Run.move rfl rfl rfl (.at rfl) ?_
  refine Run.assign rfl rfl rfl (.at rfl) ?_
  refine Run.nil ?_
  refine WP.seq (WP.region (l := [0, 1, 2, 3, 4, 5, 6]) rfl ?_)
  refine Run.move rfl rfl rfl (.at rfl) ?_
  refine Run.acts [] [0] rfl rfl rfl (.at rfl) (.cons (.at rfl) .nil) (LendL.refl _ _) (c_cloneP 0 3 [a, b, c, d] (by decide) rfl) rfl rfl rfl (fun x H h => ?_) (fun x H h => ?_)
  · obtain ⟨bb, rfl, rfl⟩ := h
    exact ⟨rfl, rfl⟩
  obtain ⟨bb, rfl, rfl⟩ := h
  refine Run.move rfl rfl rfl (.at rfl) ?_
  refine Run.move rfl rfl rfl (.at rfl) ?_
  refine Run.add rfl rfl rfl (.at rfl) (.at rfl) (by omega) ?_
  refine Run.acts [0] [0] rfl rfl rfl (.at rfl) (.cons (.at rfl) (.cons (.at rfl) (.cons (.at rfl) .nil))) (LendL.refl _ _) (c_delP 0 bb 4 4 1 true [a, b, c, d] (by decide) rfl (by decide) (by decide) (by decide)) rfl rfl rfl (fun x H h => ?_) (fun x H h => ?_)
  · obtain ⟨rfl, rfl⟩ := h
    exact ⟨rfl, rfl⟩
  obtain ⟨rfl, rfl⟩ := h
  refine Run.assign rfl rfl rfl (.at rfl) ?_
  refine Run.nil ?_
  refine WP.seq (WP.draw mx_0 ?_)
  refine Drawn.calmR ?_
  refine' DrawR.op 0 18 0 [(1, none)] rfl rfl (fun rest => ?_) ?_
  rotate_left
  · skip
    refine Run.move rfl rfl rfl (.at rfl) ?_
    exact single_nil
  refine' DrawR.op 1 19 1 [(18, some 0)] rfl rfl (fun rest => ?_) ?_
  rotate_left
  · skip
    refine Run.len rfl rfl rfl (.at rfl) is_24 rfl ?_
    exact single_nil
  refine' DrawR.op 2 20 2 [(19, some 0)] rfl rfl (fun rest => ?_) ?_
  rotate_left
  · skip
    refine Run.int rfl rfl rfl (.at rfl) (.at rfl) rfl ?_
    exact single_nil
  refine' DrawR.op 3 21 3 [(20, some 0)] rfl rfl (fun rest => ?_) ?_
  rotate_left
  · skip
    refine Run.move rfl rfl rfl (.at rfl) ?_
    exact single_nil
  refine' DrawR.op 4 22 4 [(0, none), (21, some 0)] rfl rfl (fun rest => ?_) ?_
  rotate_left
  · skip
    refine' Run.guarded rfl rfl rfl rfl rfl rfl (fun ht => ?_) ?_
    rotate_left
    · skip
      refine Run.move rfl rfl rfl (.at rfl) ?_
      exact single_nil
    exact single_nil
  refine' DrawR.op 5 23 5 [(6, none), (21, some 1)] rfl rfl (fun rest => ?_) ?_
  rotate_left
  · skip
    refine' Run.guarded rfl rfl rfl rfl rfl rfl (fun ht => ?_) ?_
    rotate_left
    · skip
      refine Run.move rfl rfl rfl (.at rfl) ?_
      exact single_nil
    exact single_nil
  refine' DrawR.op 6 24 6 [(23, some 0), (21, some 2)] rfl rfl (fun rest => ?_) ?_
  rotate_left
  · skip
    refine' Run.guarded rfl rfl rfl rfl rfl rfl (fun ht => ?_) ?_
    rotate_left
    · skip
      refine Run.idx (j := 0) rfl rfl rfl (.opt rfl ht) (.at rfl) sl_24_3 (by rfl) (by decide) ?_
      exact single_nil
    exact single_nil
  refine' DrawR.op 7 25 7 [(24, some 0), (21, some 3)] rfl rfl (fun rest => ?_) ?_
  rotate_left
  · skip
    refine' Run.guarded rfl rfl rfl rfl rfl rfl (fun ht => ?_) ?_
    rotate_left
    · skip
      refine Run.loads rfl rfl rfl (.opt rfl ht) (place_adr rfl) ag_37_3 (show _ = (a).cs from rfl) rfl ?_
      exact single_nil
    exact single_nil
  refine' DrawR.op 8 26 8 [(6, none), (21, some 4)] rfl rfl (fun rest => ?_) ?_
  rotate_left
  · skip
    refine' Run.guarded rfl rfl rfl rfl rfl rfl (fun ht => ?_) ?_
    rotate_left
    · skip
      refine Run.move rfl rfl rfl (.at rfl) ?_
      exact single_nil
    exact single_nil
  refine' DrawR.op 9 27 9 [(26, some 0), (21, some 5)] rfl rfl (fun rest => ?_) ?_
  rotate_left
  · skip
    refine' Run.guarded rfl rfl rfl rfl rfl rfl (fun ht => ?_) ?_
    rotate_left
    · skip
      refine Run.idx (j := 1) rfl rfl rfl (.opt rfl ht) (.at rfl) sl_24_3 (by rfl) (by decide) ?_
      exact single_nil
    exact single_nil
  refine' DrawR.op 10 28 10 [(27, some 0), (21, some 6)] rfl rfl (fun rest => ?_) ?_
  rotate_left
  · skip
    refine' Run.guarded rfl rfl rfl rfl rfl rfl (fun ht => ?_) ?_
    rotate_left
    · skip
      refine Run.loads rfl rfl rfl (.opt rfl ht) (place_adr rfl) ag_37_3 (show _ = (c).cs from rfl) rfl ?_
      exact single_nil
    exact single_nil
  refine' DrawR.op 11 29 11 [(6, none), (21, some 7)] rfl rfl (fun rest => ?_) ?_
  rotate_left
  · skip
    refine' Run.guarded rfl rfl rfl rfl rfl rfl (fun ht => ?_) ?_
    rotate_left
    · skip
      refine Run.move rfl rfl rfl (.at rfl) ?_
      exact single_nil
    exact single_nil
  refine' DrawR.op 12 30 12 [(29, some 0), (21, some 8)] rfl rfl (fun rest => ?_) ?_
  rotate_left
  · skip
    refine' Run.guarded rfl rfl rfl rfl rfl rfl (fun ht => ?_) ?_
    rotate_left
    · skip
      refine Run.idx (j := 2) rfl rfl rfl (.opt rfl ht) (.at rfl) sl_24_3 (by rfl) (by decide) ?_
      exact single_nil
    exact single_nil
  refine' DrawR.op 13 31 13 [(30, some 0), (21, some 9)] rfl rfl (fun rest => ?_) ?_
  rotate_left
  · skip
    refine' Run.guarded rfl rfl rfl rfl rfl rfl (fun ht => ?_) ?_
    rotate_left
    · skip
      refine Run.loads rfl rfl rfl (.opt rfl ht) (place_adr rfl) ag_37_3 (show _ = (d).cs from rfl) rfl ?_
      exact single_nil
    exact single_nil
  refine' DrawR.op 14 32 14 [(22, some 9), (25, some 6), (28, some 3), (31, some 0), (21, some 10)] rfl rfl (fun rest => ?_) ?_
  rotate_left
  · skip
    refine' Run.guarded rfl rfl rfl rfl rfl rfl (fun ht => ?_) ?_
    rotate_left
    · skip
      refine Run.call rfl rfl rfl (.at rfl) (.cons (.opt rfl ht) (.cons (.opt rfl ht) (.cons (.opt rfl ht) (.cons (.opt rfl ht) .nil)))) (c_collinear p a c d hp ha hc hd) ?_
      exact single_nil
    exact single_nil
  refine' DrawR.op 15 33 15 [(21, some 11), (32, some 0)] rfl rfl (fun rest => ?_) ?_
  rotate_left
  · skip
    refine Run.or rfl rfl rfl (.at rfl) (.at rfl) rfl ?_
    exact single_nil
  refine DrawR.tail [] rfl (by kernel_rfl) ?_
  refine Run.nil ?_
  refine WP.cond (.at rfl) (fun hc1 => ?_) (fun hc1 => ?_)
  · have h1 : (det a c d % p == 0) = true := hc1
    refine WP.seq (WP.region (l := [0]) rfl ?_)
    refine Run.assign rfl rfl rfl (.at rfl) ?_
    refine Run.nil ?_
    exact WP.keep (WP.ret (hR h1)) (by repeat (first | exact trivial | refine ⟨rfl, ?_⟩)) (by repeat (first | exact HSub.nil | refine HSub.keep ?_ | refine HSub.dead ?_))
  · have h1 : (det a c d % p == 0) = false := hc1
    refine WP.skip ?_
    refine WP.region (l := [0, 1]) rfl ?_
    refine Run.add rfl rfl rfl (.at rfl) (.at rfl) (by omega) ?_
    refine Run.move rfl rfl rfl (.at rfl) ?_
    refine Run.nil ?_
    exact LP.keep (hN h1) (by repeat (first | exact trivial | refine ⟨rfl, ?_⟩)) (by repeat (first | exact HSub.nil | refine HSub.keep ?_ | refine HSub.dead ?_))
theorem l_isFrame0 {C : Cx Try.prog 38} {Q : Post} {p : Int} {a b c d : V3} (hp : IsP p) (ha : a.sm) (hb : b.sm) (hc : c.sm) (hd : d.sm)
    (hR : (det b c d % p == 0) = true → Q .ret ⟨[(4, .bool false)], [[]]⟩) (hN : (det b c d % p == 0) = false → LP C (nav Try.f19.body.get! [1, 0, 1, 0, 0]) Q ⟨[(0, .int .i64 p), (1, .imm (cs3 [a, b, c, d]) 4), (7, .imm (cs3 [a, b, c, d]) 4), (8, .int .i64 4), (9, .int .i64 1)], [[]]⟩) :
    LP C (nav Try.f19.body.get! [1, 0, 1, 0, 0]) Q ⟨[(0, .int .i64 p), (1, .imm (cs3 [a, b, c, d]) 4), (7, .imm (cs3 [a, b, c, d]) 4), (8, .int .i64 4), (9, .int .i64 0)], [[]]⟩ := by
  have _use := And.intro (And.intro ha hb) (And.intro hc hd)
  refine LP.round ?_
  refine WP.seq (WP.region (l := [0]) rfl ?_)
  refine Run.int rfl rfl rfl (.at rfl) (.at rfl) rfl ?_
  refine Run.nil ?_
  refine WP.seq ?_
  refine WP.cond_t (.at rfl) rfl ?_
  refine WP.skip ?_
  refine WP.seq ?_
  refine WP.block ?_
  refine WP.seq (WP.region (l := [0, 1]) rfl ?_)
  refine Run.move rfl rfl rfl (.at rfl) ?_
  refine Run.assign rfl rfl rfl (.at rfl) ?_
  refine Run.nil ?_
  refine WP.seq (WP.region (l := [0, 1, 2, 3, 4, 5, 6]) rfl ?_)
  refine Run.move rfl rfl rfl (.at rfl) ?_
  refine Run.acts [] [0] rfl rfl rfl (.at rfl) (.cons (.at rfl) .nil) (LendL.refl _ _) (c_cloneP 0 3 [a, b, c, d] (by decide) rfl) rfl rfl rfl (fun x H h => ?_) (fun x H h => ?_)
  · obtain ⟨bb, rfl, rfl⟩ := h
    exact ⟨rfl, rfl⟩
  obtain ⟨bb, rfl, rfl⟩ := h
  refine Run.move rfl rfl rfl (.at rfl) ?_
  refine Run.move rfl rfl rfl (.at rfl) ?_
  refine Run.add rfl rfl rfl (.at rfl) (.at rfl) (by omega) ?_
  refine Run.acts [0] [0] rfl rfl rfl (.at rfl) (.cons (.at rfl) (.cons (.at rfl) (.cons (.at rfl) .nil))) (LendL.refl _ _) (c_delP 0 bb 4 4 0 true [a, b, c, d] (by decide) rfl (by decide) (by decide) (by decide)) rfl rfl rfl (fun x H h => ?_) (fun x H h => ?_)
  · obtain ⟨rfl, rfl⟩ := h
    exact ⟨rfl, rfl⟩
  obtain ⟨rfl, rfl⟩ := h
  refine Run.assign rfl rfl rfl (.at rfl) ?_
  refine Run.nil ?_
  refine WP.seq (WP.draw mx_0 ?_)
  refine Drawn.calmR ?_
  refine' DrawR.op 0 18 0 [(1, none)] rfl rfl (fun rest => ?_) ?_
  rotate_left
  · skip
    refine Run.move rfl rfl rfl (.at rfl) ?_
    exact single_nil
  refine' DrawR.op 1 19 1 [(18, some 0)] rfl rfl (fun rest => ?_) ?_
  rotate_left
  · skip
    refine Run.len rfl rfl rfl (.at rfl) is_24 rfl ?_
    exact single_nil
  refine' DrawR.op 2 20 2 [(19, some 0)] rfl rfl (fun rest => ?_) ?_
  rotate_left
  · skip
    refine Run.int rfl rfl rfl (.at rfl) (.at rfl) rfl ?_
    exact single_nil
  refine' DrawR.op 3 21 3 [(20, some 0)] rfl rfl (fun rest => ?_) ?_
  rotate_left
  · skip
    refine Run.move rfl rfl rfl (.at rfl) ?_
    exact single_nil
  refine' DrawR.op 4 22 4 [(0, none), (21, some 0)] rfl rfl (fun rest => ?_) ?_
  rotate_left
  · skip
    refine' Run.guarded rfl rfl rfl rfl rfl rfl (fun ht => ?_) ?_
    rotate_left
    · skip
      refine Run.move rfl rfl rfl (.at rfl) ?_
      exact single_nil
    exact single_nil
  refine' DrawR.op 5 23 5 [(6, none), (21, some 1)] rfl rfl (fun rest => ?_) ?_
  rotate_left
  · skip
    refine' Run.guarded rfl rfl rfl rfl rfl rfl (fun ht => ?_) ?_
    rotate_left
    · skip
      refine Run.move rfl rfl rfl (.at rfl) ?_
      exact single_nil
    exact single_nil
  refine' DrawR.op 6 24 6 [(23, some 0), (21, some 2)] rfl rfl (fun rest => ?_) ?_
  rotate_left
  · skip
    refine' Run.guarded rfl rfl rfl rfl rfl rfl (fun ht => ?_) ?_
    rotate_left
    · skip
      refine Run.idx (j := 0) rfl rfl rfl (.opt rfl ht) (.at rfl) sl_24_3 (by rfl) (by decide) ?_
      exact single_nil
    exact single_nil
  refine' DrawR.op 7 25 7 [(24, some 0), (21, some 3)] rfl rfl (fun rest => ?_) ?_
  rotate_left
  · skip
    refine' Run.guarded rfl rfl rfl rfl rfl rfl (fun ht => ?_) ?_
    rotate_left
    · skip
      refine Run.loads rfl rfl rfl (.opt rfl ht) (place_adr rfl) ag_37_3 (show _ = (b).cs from rfl) rfl ?_
      exact single_nil
    exact single_nil
  refine' DrawR.op 8 26 8 [(6, none), (21, some 4)] rfl rfl (fun rest => ?_) ?_
  rotate_left
  · skip
    refine' Run.guarded rfl rfl rfl rfl rfl rfl (fun ht => ?_) ?_
    rotate_left
    · skip
      refine Run.move rfl rfl rfl (.at rfl) ?_
      exact single_nil
    exact single_nil
  refine' DrawR.op 9 27 9 [(26, some 0), (21, some 5)] rfl rfl (fun rest => ?_) ?_
  rotate_left
  · skip
    refine' Run.guarded rfl rfl rfl rfl rfl rfl (fun ht => ?_) ?_
    rotate_left
    · skip
      refine Run.idx (j := 1) rfl rfl rfl (.opt rfl ht) (.at rfl) sl_24_3 (by rfl) (by decide) ?_
      exact single_nil
    exact single_nil
  refine' DrawR.op 10 28 10 [(27, some 0), (21, some 6)] rfl rfl (fun rest => ?_) ?_
  rotate_left
  · skip
    refine' Run.guarded rfl rfl rfl rfl rfl rfl (fun ht => ?_) ?_
    rotate_left
    · skip
      refine Run.loads rfl rfl rfl (.opt rfl ht) (place_adr rfl) ag_37_3 (show _ = (c).cs from rfl) rfl ?_
      exact single_nil
    exact single_nil
  refine' DrawR.op 11 29 11 [(6, none), (21, some 7)] rfl rfl (fun rest => ?_) ?_
  rotate_left
  · skip
    refine' Run.guarded rfl rfl rfl rfl rfl rfl (fun ht => ?_) ?_
    rotate_left
    · skip
      refine Run.move rfl rfl rfl (.at rfl) ?_
      exact single_nil
    exact single_nil
  refine' DrawR.op 12 30 12 [(29, some 0), (21, some 8)] rfl rfl (fun rest => ?_) ?_
  rotate_left
  · skip
    refine' Run.guarded rfl rfl rfl rfl rfl rfl (fun ht => ?_) ?_
    rotate_left
    · skip
      refine Run.idx (j := 2) rfl rfl rfl (.opt rfl ht) (.at rfl) sl_24_3 (by rfl) (by decide) ?_
      exact single_nil
    exact single_nil
  refine' DrawR.op 13 31 13 [(30, some 0), (21, some 9)] rfl rfl (fun rest => ?_) ?_
  rotate_left
  · skip
    refine' Run.guarded rfl rfl rfl rfl rfl rfl (fun ht => ?_) ?_
    rotate_left
    · skip
      refine Run.loads rfl rfl rfl (.opt rfl ht) (place_adr rfl) ag_37_3 (show _ = (d).cs from rfl) rfl ?_
      exact single_nil
    exact single_nil
  refine' DrawR.op 14 32 14 [(22, some 9), (25, some 6), (28, some 3), (31, some 0), (21, some 10)] rfl rfl (fun rest => ?_) ?_
  rotate_left
  · skip
    refine' Run.guarded rfl rfl rfl rfl rfl rfl (fun ht => ?_) ?_
    rotate_left
    · skip
      refine Run.call rfl rfl rfl (.at rfl) (.cons (.opt rfl ht) (.cons (.opt rfl ht) (.cons (.opt rfl ht) (.cons (.opt rfl ht) .nil)))) (c_collinear p b c d hp hb hc hd) ?_
      exact single_nil
    exact single_nil
  refine' DrawR.op 15 33 15 [(21, some 11), (32, some 0)] rfl rfl (fun rest => ?_) ?_
  rotate_left
  · skip
    refine Run.or rfl rfl rfl (.at rfl) (.at rfl) rfl ?_
    exact single_nil
  refine DrawR.tail [] rfl (by kernel_rfl) ?_
  refine Run.nil ?_
  refine WP.cond (.at rfl) (fun hc1 => ?_) (fun hc1 => ?_)
  · have h1 : (det b c d % p == 0) = true := hc1
    refine WP.seq (WP.region (l := [0]) rfl ?_)
    refine Run.assign rfl rfl rfl (.at rfl) ?_
    refine Run.nil ?_
    exact WP.keep (WP.ret (hR h1)) (by repeat (first | exact trivial | refine ⟨rfl, ?_⟩)) (by repeat (first | exact HSub.nil | refine HSub.keep ?_ | refine HSub.dead ?_))
  · have h1 : (det b c d % p == 0) = false := hc1
    refine WP.skip ?_
    refine WP.region (l := [0, 1]) rfl ?_
    refine Run.add rfl rfl rfl (.at rfl) (.at rfl) (by omega) ?_
    refine Run.move rfl rfl rfl (.at rfl) ?_
    refine Run.nil ?_
    exact LP.keep (hN h1) (by repeat (first | exact trivial | refine ⟨rfl, ?_⟩)) (by repeat (first | exact HSub.nil | refine HSub.keep ?_ | refine HSub.dead ?_))
def frame4 (p : Int) (a b c d : V3) : Bool := !(det b c d % p == 0) && (!(det a c d % p == 0) && (!(det a b d % p == 0) && !(det a b c % p == 0)))
theorem c_isFrame (p : Int) (a b c d : V3) (hp : IsP p) (ha : a.sm) (hb : b.sm) (hc : c.sm) (hd : d.sm) : Pure Try.prog 19 [.int .i64 p, .imm (cs3 [a, b, c, d]) 4] (.bool (frame4 p a b c d)) := by
  refine Pure.body 1 (n := 38) (fn := Try.f19) (c := Try.f19.body.get!) fn_19 rfl nm_19 rfl rfl fun C => ?_
  refine WP.seq (WP.region (l := [0]) rfl ?_)
  refine Run.assign rfl rfl rfl (.at rfl) ?_
  refine Run.nil ?_
  refine WP.seq ?_
  refine WP.seq (WP.region (l := [0, 1, 2]) rfl ?_)
  refine Run.move rfl rfl rfl (.at rfl) ?_
  refine Run.len rfl rfl rfl (.at rfl) is_24 rfl ?_
  refine Run.move rfl rfl rfl (.at rfl) ?_
  refine Run.nil ?_
  refine WP.block ?_
  refine WP.loop (LP.keep (l_isFrame0 (a := a) (b := b) (c := c) (d := d) hp ha hb hc hd (fun h => ?_) (fun h0 => l_isFrame1 hp ha hb hc hd (fun h => ?_) (fun h1 => l_isFrame2 hp ha hb hc hd (fun h => ?_) (fun h2 => l_isFrame3 hp ha hb hc hd (fun h => ?_) (fun h3 => LP.keep (l_isFrame4 ?_) (by repeat (first | exact trivial | refine ⟨rfl, ?_⟩)) (by repeat (first | exact HSub.nil | refine HSub.keep ?_ | refine HSub.dead ?_))))))) (by repeat (first | exact trivial | refine ⟨rfl, ?_⟩)) (by repeat (first | exact HSub.nil | refine HSub.keep ?_ | refine HSub.dead ?_)))
  · exact Ends.pure (.tmp rfl .nil) (by unfold frame4; rw [h]; rfl)
  · exact Ends.pure (.tmp rfl .nil) (by unfold frame4; rw [h0, h]; rfl)
  · exact Ends.pure (.tmp rfl .nil) (by unfold frame4; rw [h0, h1, h]; rfl)
  · exact Ends.pure (.tmp rfl .nil) (by unfold frame4; rw [h0, h1, h2, h]; rfl)
  refine WP.seq (WP.region (l := [0, 1, 2, 3]) rfl ?_)
  refine Run.move rfl rfl rfl (.at rfl) ?_
  refine Run.len rfl rfl rfl (.at rfl) is_24 rfl ?_
  refine Run.int rfl rfl rfl (.at rfl) (.at rfl) rfl ?_
  refine Run.assign rfl rfl rfl (.at rfl) ?_
  refine Run.nil ?_
  refine WP.ret ?_
  exact Ends.pure (.tmp rfl .nil) (by unfold frame4; rw [h0, h1, h2, h3]; rfl)
end Go.Ab
