/- The walks of the law's helpers over points: marks. -/
import Derived.Test.YtlipjbfmmheicaaP6
import Derived.Test.YtlipjbfmmheicaaL2
namespace Go.Ab
open Go.Proofs

theorem l_markIn3 {C : Cx Try.prog 26} {Q : Post} {q : Int} {i n cap b : Nat} {o : Bool} {cs : List AV}
    (hQ : Q (.exit 2) ⟨[(0, .own 0 b 3 0 n cap o), (1, .int .i64 (q + 3)), (5, .int .i64 i)], [[(b, splice cs (0 + i * 3) (mk q).cs)]]⟩) (cs' : List AV) (h : cs' = splice cs (0 + i * 3) (mk q).cs) :
    LP C (nav Try.f35.body.get! [1, 0, 1, 0, 0, 1, 0, 0, 1, 0, 0]) Q ⟨[(0, .own 0 b 3 0 n cap o), (1, .int .i64 (q + 3)), (5, .int .i64 i), (6, .int .i64 3)], [[(b, cs')]]⟩ := by
  subst h
  refine LP.round ?_
  refine WP.seq ?_
  refine WP.seq (WP.region (l := [0, 1]) rfl ?_)
  refine Run.move rfl rfl rfl (.at rfl) ?_
  refine Run.int rfl rfl rfl (.at rfl) (.at rfl) rfl ?_
  refine Run.nil ?_
  refine WP.cond_f (.at rfl) rfl ?_
  exact WP.keep (WP.exit hQ) (by repeat (first | exact trivial | refine ⟨rfl, ?_⟩)) (by repeat (first | exact HSub.nil | refine HSub.keep ?_ | refine HSub.dead ?_))
theorem l_markIn2 {C : Cx Try.prog 26} {Q : Post} {q : Int} {i n cap b : Nat} {o : Bool} {cs : List AV} (hq : 0 ≤ q ∧ q ≤ 100000000) (hi : i < n) (hcs : i * 3 + 3 ≤ cs.length)
    (hQ : Q (.exit 2) ⟨[(0, .own 0 b 3 0 n cap o), (1, .int .i64 (q + 3)), (5, .int .i64 i)], [[(b, splice cs (0 + i * 3) (mk q).cs)]]⟩) (cs' : List AV) (h : cs' = splice cs (0 + i * 3) ((mk q).cs.take 2)) :
    LP C (nav Try.f35.body.get! [1, 0, 1, 0, 0, 1, 0, 0, 1, 0, 0]) Q ⟨[(0, .own 0 b 3 0 n cap o), (1, .int .i64 (q + 2)), (5, .int .i64 i), (6, .int .i64 2)], [[(b, cs')]]⟩ := by
  have hl : cs'.length = cs.length := by rw [h, splice_length (by simp [V3.cs]; omega)]
  refine LP.round ?_
  refine WP.seq ?_
  refine WP.seq (WP.region (l := [0, 1]) rfl ?_)
  refine Run.move rfl rfl rfl (.at rfl) ?_
  refine Run.int rfl rfl rfl (.at rfl) (.at rfl) rfl ?_
  refine Run.nil ?_
  refine WP.cond_t (.at rfl) rfl ?_
  refine WP.skip ?_
  refine WP.seq ?_
  refine WP.block ?_
  refine WP.seq (WP.region (l := [0, 1, 2, 3, 4, 5, 6]) rfl ?_)
  refine Run.move rfl rfl rfl (.at rfl) ?_
  refine Run.move rfl rfl rfl (.at rfl) ?_
  refine Run.move rfl rfl rfl (.at rfl) ?_
  refine Run.move rfl rfl rfl (.at rfl) ?_
  refine Run.idx (j := i) rfl rfl rfl (.at rfl) (.at rfl) sl_51_3 rfl hi ?_
  refine Run.idx_arr (j := 2) rfl rfl rfl (.at rfl) (.at rfl) ar_33_3_1 rfl (by decide) ?_
  refine Run.store (j := 0) rfl rfl (.at rfl) rfl rfl (.at rfl) sz_2_1 rfl rfl (by omega) rfl ?_
  refine Run.nil ?_
  refine WP.region (l := [0, 1, 2]) rfl ?_
  refine Run.move rfl rfl rfl (.at rfl) ?_
  refine Run.add rfl rfl rfl (.at rfl) (.at rfl) (by omega) ?_
  refine Run.assign rfl rfl rfl (.at rfl) ?_
  refine Run.nil ?_
  refine WP.region (l := [0, 1, 2]) rfl ?_
  refine Run.move rfl rfl rfl (.at rfl) ?_
  refine Run.add rfl rfl rfl (.at rfl) (.at rfl) (by omega) ?_
  refine Run.assign rfl rfl rfl (.at rfl) ?_
  refine Run.nil ?_
  refine LP.keep (fr' := [(0, .own 0 b 3 0 n cap o), (1, .int .i64 (q + 3)), (5, .int .i64 i), (6, .int .i64 3)]) (l_markIn3  hQ _ ?_) ⟨rfl, by show some (AV.int .i64 (q + 2 + 1)) = _; rw [Int.add_assoc]; rfl, rfl, rfl, trivial⟩ (by repeat (first | exact HSub.nil | refine HSub.keep ?_ | refine HSub.dead ?_))
  rw [h]
  have e := splice_snoc (cs := cs) (xs := (mk q).cs.take 2) (off := 0 + i * 3) (q := 0 + i * 3 + 2 * 1) (x := .int .i64 (q + 2)) (by simp [V3.cs]) (by omega)
  rw [show AV.cs (AV.int .i64 (q + 2)) = [AV.int .i64 (q + 2)] from rfl, e]
  rfl
theorem l_markIn1 {C : Cx Try.prog 26} {Q : Post} {q : Int} {i n cap b : Nat} {o : Bool} {cs : List AV} (hq : 0 ≤ q ∧ q ≤ 100000000) (hi : i < n) (hcs : i * 3 + 3 ≤ cs.length)
    (hQ : Q (.exit 2) ⟨[(0, .own 0 b 3 0 n cap o), (1, .int .i64 (q + 3)), (5, .int .i64 i)], [[(b, splice cs (0 + i * 3) (mk q).cs)]]⟩) (cs' : List AV) (h : cs' = splice cs (0 + i * 3) ((mk q).cs.take 1)) :
    LP C (nav Try.f35.body.get! [1, 0, 1, 0, 0, 1, 0, 0, 1, 0, 0]) Q ⟨[(0, .own 0 b 3 0 n cap o), (1, .int .i64 (q + 1)), (5, .int .i64 i), (6, .int .i64 1)], [[(b, cs')]]⟩ := by
  have hl : cs'.length = cs.length := by rw [h, splice_length (by simp [V3.cs]; omega)]
  refine LP.round ?_
  refine WP.seq ?_
  refine WP.seq (WP.region (l := [0, 1]) rfl ?_)
  refine Run.move rfl rfl rfl (.at rfl) ?_
  refine Run.int rfl rfl rfl (.at rfl) (.at rfl) rfl ?_
  refine Run.nil ?_
  refine WP.cond_t (.at rfl) rfl ?_
  refine WP.skip ?_
  refine WP.seq ?_
  refine WP.block ?_
  refine WP.seq (WP.region (l := [0, 1, 2, 3, 4, 5, 6]) rfl ?_)
  refine Run.move rfl rfl rfl (.at rfl) ?_
  refine Run.move rfl rfl rfl (.at rfl) ?_
  refine Run.move rfl rfl rfl (.at rfl) ?_
  refine Run.move rfl rfl rfl (.at rfl) ?_
  refine Run.idx (j := i) rfl rfl rfl (.at rfl) (.at rfl) sl_51_3 rfl hi ?_
  refine Run.idx_arr (j := 1) rfl rfl rfl (.at rfl) (.at rfl) ar_33_3_1 rfl (by decide) ?_
  refine Run.store (j := 0) rfl rfl (.at rfl) rfl rfl (.at rfl) sz_2_1 rfl rfl (by omega) rfl ?_
  refine Run.nil ?_
  refine WP.region (l := [0, 1, 2]) rfl ?_
  refine Run.move rfl rfl rfl (.at rfl) ?_
  refine Run.add rfl rfl rfl (.at rfl) (.at rfl) (by omega) ?_
  refine Run.assign rfl rfl rfl (.at rfl) ?_
  refine Run.nil ?_
  refine WP.region (l := [0, 1, 2]) rfl ?_
  refine Run.move rfl rfl rfl (.at rfl) ?_
  refine Run.add rfl rfl rfl (.at rfl) (.at rfl) (by omega) ?_
  refine Run.assign rfl rfl rfl (.at rfl) ?_
  refine Run.nil ?_
  refine LP.keep (fr' := [(0, .own 0 b 3 0 n cap o), (1, .int .i64 (q + 2)), (5, .int .i64 i), (6, .int .i64 2)]) (l_markIn2 hq hi hcs hQ _ ?_) ⟨rfl, by show some (AV.int .i64 (q + 1 + 1)) = _; rw [Int.add_assoc]; rfl, rfl, rfl, trivial⟩ (by repeat (first | exact HSub.nil | refine HSub.keep ?_ | refine HSub.dead ?_))
  rw [h]
  have e := splice_snoc (cs := cs) (xs := (mk q).cs.take 1) (off := 0 + i * 3) (q := 0 + i * 3 + 1 * 1) (x := .int .i64 (q + 1)) (by simp [V3.cs]) (by omega)
  rw [show AV.cs (AV.int .i64 (q + 1)) = [AV.int .i64 (q + 1)] from rfl, e]
  rfl
theorem l_markIn0 {C : Cx Try.prog 26} {Q : Post} {q : Int} {i n cap b : Nat} {o : Bool} {cs : List AV} (hq : 0 ≤ q ∧ q ≤ 100000000) (hi : i < n) (hcs : i * 3 + 3 ≤ cs.length)
    (hQ : Q (.exit 2) ⟨[(0, .own 0 b 3 0 n cap o), (1, .int .i64 (q + 3)), (5, .int .i64 i)], [[(b, splice cs (0 + i * 3) (mk q).cs)]]⟩) (cs' : List AV) (h : cs' = splice cs (0 + i * 3) ((mk q).cs.take 0)) :
    LP C (nav Try.f35.body.get! [1, 0, 1, 0, 0, 1, 0, 0, 1, 0, 0]) Q ⟨[(0, .own 0 b 3 0 n cap o), (1, .int .i64 (q + 0)), (5, .int .i64 i), (6, .int .i64 0)], [[(b, cs')]]⟩ := by
  have hl : cs'.length = cs.length := by rw [h, splice_length (by simp [V3.cs]; omega)]
  refine LP.round ?_
  refine WP.seq ?_
  refine WP.seq (WP.region (l := [0, 1]) rfl ?_)
  refine Run.move rfl rfl rfl (.at rfl) ?_
  refine Run.int rfl rfl rfl (.at rfl) (.at rfl) rfl ?_
  refine Run.nil ?_
  refine WP.cond_t (.at rfl) rfl ?_
  refine WP.skip ?_
  refine WP.seq ?_
  refine WP.block ?_
  refine WP.seq (WP.region (l := [0, 1, 2, 3, 4, 5, 6]) rfl ?_)
  refine Run.move rfl rfl rfl (.at rfl) ?_
  refine Run.move rfl rfl rfl (.at rfl) ?_
  refine Run.move rfl rfl rfl (.at rfl) ?_
  refine Run.move rfl rfl rfl (.at rfl) ?_
  refine Run.idx (j := i) rfl rfl rfl (.at rfl) (.at rfl) sl_51_3 rfl hi ?_
  refine Run.idx_arr (j := 0) rfl rfl rfl (.at rfl) (.at rfl) ar_33_3_1 rfl (by decide) ?_
  refine Run.store (j := 0) rfl rfl (.at rfl) rfl rfl (.at rfl) sz_2_1 rfl rfl (by omega) rfl ?_
  refine Run.nil ?_
  refine WP.region (l := [0, 1, 2]) rfl ?_
  refine Run.move rfl rfl rfl (.at rfl) ?_
  refine Run.add rfl rfl rfl (.at rfl) (.at rfl) (by omega) ?_
  refine Run.assign rfl rfl rfl (.at rfl) ?_
  refine Run.nil ?_
  refine WP.region (l := [0, 1, 2]) rfl ?_
  refine Run.move rfl rfl rfl (.at rfl) ?_
  refine Run.add rfl rfl rfl (.at rfl) (.at rfl) (by omega) ?_
  refine Run.assign rfl rfl rfl (.at rfl) ?_
  refine Run.nil ?_
  refine LP.keep (fr' := [(0, .own 0 b 3 0 n cap o), (1, .int .i64 (q + 1)), (5, .int .i64 i), (6, .int .i64 1)]) (l_markIn1 hq hi hcs hQ _ ?_) ⟨rfl, by show some (AV.int .i64 (q + 0 + 1)) = _; rw [Int.add_assoc]; rfl, rfl, rfl, trivial⟩ (by repeat (first | exact HSub.nil | refine HSub.keep ?_ | refine HSub.dead ?_))
  rw [h]
  have e := splice_snoc (cs := cs) (xs := (mk q).cs.take 0) (off := 0 + i * 3) (q := 0 + i * 3 + 0 * 1) (x := .int .i64 (q + 0)) (by simp [V3.cs]) (by omega)
  rw [show AV.cs (AV.int .i64 (q + 0)) = [AV.int .i64 (q + 0)] from rfl, e]
  rw [Int.add_zero]; rfl
theorem l_markPointS {C : Cx Try.prog 26} {Q : Post} {L : List V3} {q : Int} {n cap b : Nat} {o : Bool} (hq : 0 ≤ q ∧ q ≤ 1000000) (hn : n ≤ 4000000) (hL : n ≤ L.length)
    (hQ : Q (.exit 0) ⟨[(1, .int .i64 (q + 3 * n))], [[(b, cs3 (markTo L q n))]]⟩) :
    ∀ (d k : Nat) (cs : List AV), k + d = n → cs = cs3 (markTo L q k) → LP C (nav Try.f35.body.get! [1, 0, 1, 0, 0]) Q ⟨[(0, .own 0 b 3 0 n cap o), (1, .int .i64 (q + 3 * k)), (5, .int .i64 k)], [[(b, cs)]]⟩ := by
  intro d
  induction d with
  | zero =>
    intro k cs hd hc
    have hk : k = n := by omega
    refine LP.round ?_
    refine WP.seq ?_
    refine WP.seq (WP.region (l := [0, 1, 2, 3]) rfl ?_)
    refine Run.move rfl rfl rfl (.at rfl) ?_
    refine Run.move rfl rfl rfl (.at rfl) ?_
    refine Run.len rfl rfl rfl (.at rfl) is_51 rfl ?_
    refine Run.int rfl rfl rfl (.at rfl) (.at rfl) rfl ?_
    refine Run.nil ?_
    refine WP.cond_f (.at rfl) (by simp; omega) ?_
    subst hk hc
    exact WP.keep (WP.exit hQ) (by repeat (first | exact trivial | refine ⟨rfl, ?_⟩)) (by repeat (first | exact HSub.nil | refine HSub.keep ?_ | refine HSub.dead ?_))
  | succ d ih =>
    intro k cs hd hc
    have hk : k < n := by omega
    have hcl : cs.length = L.length * 3 := by rw [hc, cs3_length, markTo_length]
    refine LP.round ?_
    refine WP.seq ?_
    refine WP.seq (WP.region (l := [0, 1, 2, 3]) rfl ?_)
    refine Run.move rfl rfl rfl (.at rfl) ?_
    refine Run.move rfl rfl rfl (.at rfl) ?_
    refine Run.len rfl rfl rfl (.at rfl) is_51 rfl ?_
    refine Run.int rfl rfl rfl (.at rfl) (.at rfl) rfl ?_
    refine Run.nil ?_
    refine WP.cond_t (.at rfl) (by simp; omega) ?_
    refine WP.skip ?_
    refine WP.seq ?_
    refine WP.block ?_
    refine WP.seq (WP.region (l := [0]) rfl ?_)
    refine Run.assign rfl rfl rfl (.at rfl) ?_
    refine Run.nil ?_
    refine WP.block ?_
    refine WP.loop (LP.keep (fr' := [(0, .own 0 b 3 0 n cap o), (1, .int .i64 (q + 3 * k + 0)), (5, .int .i64 k), (6, .int .i64 0)]) (l_markIn0 (q := q + 3 * k) (i := k) (cs := cs) (by omega) hk (by omega) ?_ _ ?_) ⟨rfl, by rw [Int.add_zero]; rfl, rfl, rfl, trivial⟩ (by repeat (first | exact HSub.nil | refine HSub.keep ?_ | refine HSub.dead ?_)))
    rotate_left
    · simp [splice]
    refine WP.region (l := [0, 1, 2]) rfl ?_
    refine Run.move rfl rfl rfl (.at rfl) ?_
    refine Run.add rfl rfl rfl (.at rfl) (.at rfl) (by omega) ?_
    refine Run.assign rfl rfl rfl (.at rfl) ?_
    refine Run.nil ?_
    refine LP.keep (fr' := [(0, .own 0 b 3 0 n cap o), (1, .int .i64 (q + 3 * ((k + 1 : Nat) : Int))), (5, .int .i64 (k + 1 : Nat))]) (ih (k + 1) _ (by omega) ?_) ⟨rfl, by show some (AV.int .i64 (q + 3 * k + 3)) = _; congr 2; omega, rfl, trivial⟩ (by repeat (first | exact HSub.nil | refine HSub.keep ?_ | refine HSub.dead ?_))
    rw [hc, ← markTo_next _ _ (by omega)]
    exact cs3_set _ (by rw [markTo_length]; omega)
theorem c_markPointS (id b n cap : Nat) (o : Bool) (L : List V3) (q : Int) (hq : 0 ≤ q ∧ q ≤ 1000000) (hn : n ≤ 4000000) (hL : n ≤ L.length) :
    Acts Try.prog 35 [.own id b 3 0 n cap o, .int .i64 q] [[(b, cs3 L)]] (fun x H => x = .int .i64 (q + 3 * n) ∧ H = [[(b, cs3 (markTo L q n))]]) := by
  refine Acts.body 0 (n := 26) (fn := Try.f35) (c := Try.f35.body.get!) fn_35 rfl nm_35 rfl rfl fun C => ?_
  refine WP.seq (WP.region (l := [0]) rfl ?_)
  refine Run.assign rfl rfl rfl (.at rfl) ?_
  refine Run.nil ?_
  refine WP.seq ?_
  refine WP.seq (WP.region (l := [0]) rfl ?_)
  refine Run.assign rfl rfl rfl (.at rfl) ?_
  refine Run.nil ?_
  refine WP.block ?_
  refine WP.weak 0 rfl (fun _ _ _ h => own_name 0 h) ?_
  refine WP.loop (LP.keep (fr' := [(0, .own 0 b 3 0 n cap o), (1, .int .i64 (q + 3 * (0 : Nat))), (5, .int .i64 (0 : Nat))]) (l_markPointS (L := L) (q := q) hq hn hL ?_ n 0 _ (by omega) ?_) ⟨rfl, by show some (AV.int .i64 q) = _; simp, rfl, trivial⟩ (by repeat (first | exact HSub.nil | refine HSub.keep ?_ | refine HSub.dead ?_)))
  rotate_left
  · rw [markTo_zero]
  refine WP.seq (WP.region (l := [0, 1]) rfl ?_)
  refine Run.move rfl rfl rfl (.at rfl) ?_
  refine Run.assign rfl rfl rfl (.at rfl) ?_
  refine Run.nil ?_
  refine WP.ret ?_
  exact ⟨_, [[(b, cs3 (markTo L q n))]], (.tmp rfl .nil), Moved.pick (is := [0]) rfl, rfl, rfl⟩
theorem l_markPointS_nil {C : Cx Try.prog 26} {Q : Post} {q : Int} (hQ : Q (.exit 0) ⟨[(1, .int .i64 q)], []⟩) :
    LP C (nav Try.f35.body.get! [1, 0, 1, 0, 0]) Q ⟨[(0, .nilsl), (1, .int .i64 q), (5, .int .i64 0)], []⟩ := by
  refine LP.round ?_
  refine WP.seq ?_
  refine WP.seq (WP.region (l := [0, 1, 2, 3]) rfl ?_)
  refine Run.move rfl rfl rfl (.at rfl) ?_
  refine Run.move rfl rfl rfl (.at rfl) ?_
  refine Run.len rfl rfl rfl (.at rfl) is_51 rfl ?_
  refine Run.int rfl rfl rfl (.at rfl) (.at rfl) rfl ?_
  refine Run.nil ?_
  refine WP.cond_f (.at rfl) rfl ?_
  exact WP.keep (WP.exit hQ) (by repeat (first | exact trivial | refine ⟨rfl, ?_⟩)) (by repeat (first | exact HSub.nil | refine HSub.keep ?_ | refine HSub.dead ?_))
theorem c_markPointS_nil (q : Int) : Pure Try.prog 35 [.nilsl, .int .i64 q] (.int .i64 q) := by
  refine Pure.body 0 (n := 26) (fn := Try.f35) (c := Try.f35.body.get!) fn_35 rfl nm_35 rfl rfl fun C => ?_
  refine WP.seq (WP.region (l := [0]) rfl ?_)
  refine Run.assign rfl rfl rfl (.at rfl) ?_
  refine Run.nil ?_
  refine WP.seq ?_
  refine WP.seq (WP.region (l := [0]) rfl ?_)
  refine Run.assign rfl rfl rfl (.at rfl) ?_
  refine Run.nil ?_
  refine WP.block ?_
  refine WP.loop (LP.keep (l_markPointS_nil (q := q) ?_) (by repeat (first | exact trivial | refine ⟨rfl, ?_⟩)) (by repeat (first | exact HSub.nil | refine HSub.keep ?_ | refine HSub.dead ?_)))
  refine WP.seq (WP.region (l := [0, 1]) rfl ?_)
  refine Run.move rfl rfl rfl (.at rfl) ?_
  refine Run.assign rfl rfl rfl (.at rfl) ?_
  refine Run.nil ?_
  refine WP.ret ?_
  exact Ends.pure (.tmp rfl .nil) rfl

theorem l_heldIn3 {C : Cx Try.prog 28} {Q : Post} {q : Int} {i n : Nat} {cs : List AV}
    (hQ : Q (.exit 2) ⟨[(0, .imm cs n), (1, .int .i64 (q + 3)), (5, .int .i64 i)], []⟩) :
    LP C (nav Try.f36.body.get! [1, 0, 1, 0, 0, 1, 0, 0, 1, 0, 0]) Q ⟨[(0, .imm cs n), (1, .int .i64 (q + 3)), (5, .int .i64 i), (6, .int .i64 3)], []⟩ := by
  refine LP.round ?_
  refine WP.seq ?_
  refine WP.seq (WP.region (l := [0, 1]) rfl ?_)
  refine Run.move rfl rfl rfl (.at rfl) ?_
  refine Run.int rfl rfl rfl (.at rfl) (.at rfl) rfl ?_
  refine Run.nil ?_
  refine WP.cond_f (.at rfl) rfl ?_
  exact WP.keep (WP.exit hQ) (by repeat (first | exact trivial | refine ⟨rfl, ?_⟩)) (by repeat (first | exact HSub.nil | refine HSub.keep ?_ | refine HSub.dead ?_))
theorem l_heldIn2 {C : Cx Try.prog 28} {Q : Post} {q : Int} {i n : Nat} {cs : List AV} (hq : 0 ≤ q ∧ q ≤ 100000000) (hi : i < n) (hcs : (cs.drop (i * 3)).take 3 = (mk q).cs)
    (hQ : Q (.exit 2) ⟨[(0, .imm cs n), (1, .int .i64 (q + 3)), (5, .int .i64 i)], []⟩) :
    LP C (nav Try.f36.body.get! [1, 0, 1, 0, 0, 1, 0, 0, 1, 0, 0]) Q ⟨[(0, .imm cs n), (1, .int .i64 (q + 2)), (5, .int .i64 i), (6, .int .i64 2)], []⟩ := by
  have hc : cs[i * 3 + 2 * 1]? = some (.int .i64 (q + 2)) := by
    have e : ((cs.drop (i * 3)).take 3)[2]? = some (.int .i64 (q + 2)) := by rw [hcs]; simp [mk, V3.cs]
    rw [List.getElem?_take, if_pos (by decide), List.getElem?_drop] at e
    exact e
  refine LP.round ?_
  refine WP.seq ?_
  refine WP.seq (WP.region (l := [0, 1]) rfl ?_)
  refine Run.move rfl rfl rfl (.at rfl) ?_
  refine Run.int rfl rfl rfl (.at rfl) (.at rfl) rfl ?_
  refine Run.nil ?_
  refine WP.cond_t (.at rfl) rfl ?_
  refine WP.skip ?_
  refine WP.seq ?_
  refine WP.block ?_
  refine WP.seq ?_
  refine WP.seq (WP.region (l := [0, 1, 2, 3, 4, 5, 6, 7]) rfl ?_)
  refine Run.move rfl rfl rfl (.at rfl) ?_
  refine Run.move rfl rfl rfl (.at rfl) ?_
  refine Run.move rfl rfl rfl (.at rfl) ?_
  refine Run.idx_imm (j := i) rfl rfl rfl (.at rfl) (.at rfl) sl_51_3 rfl hi ?_
  refine Run.idx_immarr (j := 2) rfl rfl rfl (.at rfl) (.at rfl) ar_33_3_1 rfl (by decide) ?_
  refine Run.load rfl rfl rfl (.at rfl) .imm sc_2 hc ?_
  refine Run.move rfl rfl rfl (.at rfl) ?_
  refine Run.int rfl rfl rfl (.at rfl) (.at rfl) rfl ?_
  refine Run.nil ?_
  refine WP.cond_f (.at rfl) (by simp) ?_
  refine WP.skip ?_
  refine WP.region (l := [0, 1, 2]) rfl ?_
  refine Run.move rfl rfl rfl (.at rfl) ?_
  refine Run.add rfl rfl rfl (.at rfl) (.at rfl) (by omega) ?_
  refine Run.assign rfl rfl rfl (.at rfl) ?_
  refine Run.nil ?_
  refine WP.region (l := [0, 1, 2]) rfl ?_
  refine Run.move rfl rfl rfl (.at rfl) ?_
  refine Run.add rfl rfl rfl (.at rfl) (.at rfl) (by omega) ?_
  refine Run.assign rfl rfl rfl (.at rfl) ?_
  refine Run.nil ?_
  refine LP.keep (fr' := [(0, .imm cs n), (1, .int .i64 (q + 3)), (5, .int .i64 i), (6, .int .i64 3)]) (l_heldIn3  hQ) ⟨rfl, by show some (AV.int .i64 (q + 2 + 1)) = _; rw [Int.add_assoc]; rfl, rfl, rfl, trivial⟩ (by repeat (first | exact HSub.nil | refine HSub.keep ?_ | refine HSub.dead ?_))
theorem l_heldIn1 {C : Cx Try.prog 28} {Q : Post} {q : Int} {i n : Nat} {cs : List AV} (hq : 0 ≤ q ∧ q ≤ 100000000) (hi : i < n) (hcs : (cs.drop (i * 3)).take 3 = (mk q).cs)
    (hQ : Q (.exit 2) ⟨[(0, .imm cs n), (1, .int .i64 (q + 3)), (5, .int .i64 i)], []⟩) :
    LP C (nav Try.f36.body.get! [1, 0, 1, 0, 0, 1, 0, 0, 1, 0, 0]) Q ⟨[(0, .imm cs n), (1, .int .i64 (q + 1)), (5, .int .i64 i), (6, .int .i64 1)], []⟩ := by
  have hc : cs[i * 3 + 1 * 1]? = some (.int .i64 (q + 1)) := by
    have e : ((cs.drop (i * 3)).take 3)[1]? = some (.int .i64 (q + 1)) := by rw [hcs]; simp [mk, V3.cs]
    rw [List.getElem?_take, if_pos (by decide), List.getElem?_drop] at e
    exact e
  refine LP.round ?_
  refine WP.seq ?_
  refine WP.seq (WP.region (l := [0, 1]) rfl ?_)
  refine Run.move rfl rfl rfl (.at rfl) ?_
  refine Run.int rfl rfl rfl (.at rfl) (.at rfl) rfl ?_
  refine Run.nil ?_
  refine WP.cond_t (.at rfl) rfl ?_
  refine WP.skip ?_
  refine WP.seq ?_
  refine WP.block ?_
  refine WP.seq ?_
  refine WP.seq (WP.region (l := [0, 1, 2, 3, 4, 5, 6, 7]) rfl ?_)
  refine Run.move rfl rfl rfl (.at rfl) ?_
  refine Run.move rfl rfl rfl (.at rfl) ?_
  refine Run.move rfl rfl rfl (.at rfl) ?_
  refine Run.idx_imm (j := i) rfl rfl rfl (.at rfl) (.at rfl) sl_51_3 rfl hi ?_
  refine Run.idx_immarr (j := 1) rfl rfl rfl (.at rfl) (.at rfl) ar_33_3_1 rfl (by decide) ?_
  refine Run.load rfl rfl rfl (.at rfl) .imm sc_2 hc ?_
  refine Run.move rfl rfl rfl (.at rfl) ?_
  refine Run.int rfl rfl rfl (.at rfl) (.at rfl) rfl ?_
  refine Run.nil ?_
  refine WP.cond_f (.at rfl) (by simp) ?_
  refine WP.skip ?_
  refine WP.region (l := [0, 1, 2]) rfl ?_
  refine Run.move rfl rfl rfl (.at rfl) ?_
  refine Run.add rfl rfl rfl (.at rfl) (.at rfl) (by omega) ?_
  refine Run.assign rfl rfl rfl (.at rfl) ?_
  refine Run.nil ?_
  refine WP.region (l := [0, 1, 2]) rfl ?_
  refine Run.move rfl rfl rfl (.at rfl) ?_
  refine Run.add rfl rfl rfl (.at rfl) (.at rfl) (by omega) ?_
  refine Run.assign rfl rfl rfl (.at rfl) ?_
  refine Run.nil ?_
  refine LP.keep (fr' := [(0, .imm cs n), (1, .int .i64 (q + 2)), (5, .int .i64 i), (6, .int .i64 2)]) (l_heldIn2 hq hi hcs hQ) ⟨rfl, by show some (AV.int .i64 (q + 1 + 1)) = _; rw [Int.add_assoc]; rfl, rfl, rfl, trivial⟩ (by repeat (first | exact HSub.nil | refine HSub.keep ?_ | refine HSub.dead ?_))
theorem l_heldIn0 {C : Cx Try.prog 28} {Q : Post} {q : Int} {i n : Nat} {cs : List AV} (hq : 0 ≤ q ∧ q ≤ 100000000) (hi : i < n) (hcs : (cs.drop (i * 3)).take 3 = (mk q).cs)
    (hQ : Q (.exit 2) ⟨[(0, .imm cs n), (1, .int .i64 (q + 3)), (5, .int .i64 i)], []⟩) :
    LP C (nav Try.f36.body.get! [1, 0, 1, 0, 0, 1, 0, 0, 1, 0, 0]) Q ⟨[(0, .imm cs n), (1, .int .i64 (q + 0)), (5, .int .i64 i), (6, .int .i64 0)], []⟩ := by
  have hc : cs[i * 3 + 0 * 1]? = some (.int .i64 (q + 0)) := by
    have e : ((cs.drop (i * 3)).take 3)[0]? = some (.int .i64 (q + 0)) := by rw [hcs]; simp [mk, V3.cs]
    rw [List.getElem?_take, if_pos (by decide), List.getElem?_drop] at e
    exact e
  refine LP.round ?_
  refine WP.seq ?_
  refine WP.seq (WP.region (l := [0, 1]) rfl ?_)
  refine Run.move rfl rfl rfl (.at rfl) ?_
  refine Run.int rfl rfl rfl (.at rfl) (.at rfl) rfl ?_
  refine Run.nil ?_
  refine WP.cond_t (.at rfl) rfl ?_
  refine WP.skip ?_
  refine WP.seq ?_
  refine WP.block ?_
  refine WP.seq ?_
  refine WP.seq (WP.region (l := [0, 1, 2, 3, 4, 5, 6, 7]) rfl ?_)
  refine Run.move rfl rfl rfl (.at rfl) ?_
  refine Run.move rfl rfl rfl (.at rfl) ?_
  refine Run.move rfl rfl rfl (.at rfl) ?_
  refine Run.idx_imm (j := i) rfl rfl rfl (.at rfl) (.at rfl) sl_51_3 rfl hi ?_
  refine Run.idx_immarr (j := 0) rfl rfl rfl (.at rfl) (.at rfl) ar_33_3_1 rfl (by decide) ?_
  refine Run.load rfl rfl rfl (.at rfl) .imm sc_2 hc ?_
  refine Run.move rfl rfl rfl (.at rfl) ?_
  refine Run.int rfl rfl rfl (.at rfl) (.at rfl) rfl ?_
  refine Run.nil ?_
  refine WP.cond_f (.at rfl) (by simp) ?_
  refine WP.skip ?_
  refine WP.region (l := [0, 1, 2]) rfl ?_
  refine Run.move rfl rfl rfl (.at rfl) ?_
  refine Run.add rfl rfl rfl (.at rfl) (.at rfl) (by omega) ?_
  refine Run.assign rfl rfl rfl (.at rfl) ?_
  refine Run.nil ?_
  refine WP.region (l := [0, 1, 2]) rfl ?_
  refine Run.move rfl rfl rfl (.at rfl) ?_
  refine Run.add rfl rfl rfl (.at rfl) (.at rfl) (by omega) ?_
  refine Run.assign rfl rfl rfl (.at rfl) ?_
  refine Run.nil ?_
  refine LP.keep (fr' := [(0, .imm cs n), (1, .int .i64 (q + 1)), (5, .int .i64 i), (6, .int .i64 1)]) (l_heldIn1 hq hi hcs hQ) ⟨rfl, by show some (AV.int .i64 (q + 0 + 1)) = _; rw [Int.add_assoc]; rfl, rfl, rfl, trivial⟩ (by repeat (first | exact HSub.nil | refine HSub.keep ?_ | refine HSub.dead ?_))
theorem l_heldPointS {C : Cx Try.prog 28} {Q : Post} {L : List V3} {q : Int} {n : Nat} (hq : 0 ≤ q ∧ q ≤ 1000000) (hn : n ≤ 4000000) (hL : L.length = n) (hm : ∀ i, i < n → L.getD i V3.O = mk (q + 3 * i))
    (hQ : Q (.exit 0) ⟨[(1, .int .i64 (q + 3 * n))], []⟩) :
    ∀ (d k : Nat), k + d = n → LP C (nav Try.f36.body.get! [1, 0, 1, 0, 0]) Q ⟨[(0, .imm (cs3 L) n), (1, .int .i64 (q + 3 * k)), (5, .int .i64 k)], []⟩ := by
  intro d
  induction d with
  | zero =>
    intro k hd
    have hk : k = n := by omega
    refine LP.round ?_
    refine WP.seq ?_
    refine WP.seq (WP.region (l := [0, 1, 2, 3]) rfl ?_)
    refine Run.move rfl rfl rfl (.at rfl) ?_
    refine Run.move rfl rfl rfl (.at rfl) ?_
    refine Run.len rfl rfl rfl (.at rfl) is_51 rfl ?_
    refine Run.int rfl rfl rfl (.at rfl) (.at rfl) rfl ?_
    refine Run.nil ?_
    refine WP.cond_f (.at rfl) (by simp; omega) ?_
    subst hk
    exact WP.keep (WP.exit hQ) (by repeat (first | exact trivial | refine ⟨rfl, ?_⟩)) (by repeat (first | exact HSub.nil | refine HSub.keep ?_ | refine HSub.dead ?_))
  | succ d ih =>
    intro k hd
    have hk : k < n := by omega
    refine LP.round ?_
    refine WP.seq ?_
    refine WP.seq (WP.region (l := [0, 1, 2, 3]) rfl ?_)
    refine Run.move rfl rfl rfl (.at rfl) ?_
    refine Run.move rfl rfl rfl (.at rfl) ?_
    refine Run.len rfl rfl rfl (.at rfl) is_51 rfl ?_
    refine Run.int rfl rfl rfl (.at rfl) (.at rfl) rfl ?_
    refine Run.nil ?_
    refine WP.cond_t (.at rfl) (by simp; omega) ?_
    refine WP.skip ?_
    refine WP.seq ?_
    refine WP.block ?_
    refine WP.seq (WP.region (l := [0]) rfl ?_)
    refine Run.assign rfl rfl rfl (.at rfl) ?_
    refine Run.nil ?_
    refine WP.block ?_
    refine WP.loop (LP.keep (fr' := [(0, .imm (cs3 L) n), (1, .int .i64 (q + 3 * k + 0)), (5, .int .i64 k), (6, .int .i64 0)]) (l_heldIn0 (q := q + 3 * k) (i := k) (by omega) hk (by rw [cs3_get (by omega), hm k hk]) ?_) ⟨rfl, by rw [Int.add_zero]; rfl, rfl, rfl, trivial⟩ (by repeat (first | exact HSub.nil | refine HSub.keep ?_ | refine HSub.dead ?_)))
    refine WP.region (l := [0, 1, 2]) rfl ?_
    refine Run.move rfl rfl rfl (.at rfl) ?_
    refine Run.add rfl rfl rfl (.at rfl) (.at rfl) (by omega) ?_
    refine Run.assign rfl rfl rfl (.at rfl) ?_
    refine Run.nil ?_
    exact LP.keep (fr' := [(0, .imm (cs3 L) n), (1, .int .i64 (q + 3 * ((k + 1 : Nat) : Int))), (5, .int .i64 (k + 1 : Nat))]) (ih (k + 1) (by omega)) ⟨rfl, by show some (AV.int .i64 (q + 3 * k + 3)) = _; congr 2; omega, rfl, trivial⟩ (by repeat (first | exact HSub.nil | refine HSub.keep ?_ | refine HSub.dead ?_))
theorem c_heldPointS (L : List V3) (q : Int) {n : Nat} (hq : 0 ≤ q ∧ q ≤ 1000000) (hn : n ≤ 4000000) (hL : L.length = n) (hm : ∀ i, i < n → L.getD i V3.O = mk (q + 3 * i)) :
    Pure Try.prog 36 [.imm (cs3 L) n, .int .i64 q] (.int .i64 (q + 3 * n)) := by
  refine Pure.body 0 (n := 28) (fn := Try.f36) (c := Try.f36.body.get!) fn_36 rfl nm_36 rfl rfl fun C => ?_
  refine WP.seq (WP.region (l := [0]) rfl ?_)
  refine Run.assign rfl rfl rfl (.at rfl) ?_
  refine Run.nil ?_
  refine WP.seq ?_
  refine WP.seq (WP.region (l := [0]) rfl ?_)
  refine Run.assign rfl rfl rfl (.at rfl) ?_
  refine Run.nil ?_
  refine WP.block ?_
  refine WP.loop (LP.keep (fr' := [(0, .imm (cs3 L) n), (1, .int .i64 (q + 3 * (0 : Nat))), (5, .int .i64 (0 : Nat))]) (l_heldPointS (L := L) (q := q) hq hn hL hm ?_ n 0 (by omega)) ⟨rfl, by show some (AV.int .i64 q) = _; simp, rfl, trivial⟩ (by repeat (first | exact HSub.nil | refine HSub.keep ?_ | refine HSub.dead ?_)))
  refine WP.seq (WP.region (l := [0, 1]) rfl ?_)
  refine Run.move rfl rfl rfl (.at rfl) ?_
  refine Run.assign rfl rfl rfl (.at rfl) ?_
  refine Run.nil ?_
  refine WP.ret ?_
  exact Ends.pure (.tmp rfl .nil) rfl
end Go.Ab
