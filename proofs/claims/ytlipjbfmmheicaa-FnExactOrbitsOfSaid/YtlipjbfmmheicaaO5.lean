/- The walks of the law's helpers over lists of lists of points; the walk of the law of the orbits. -/
import Derived.Test.YtlipjbfmmheicaaO4
import Derived.Test.YtlipjbfmmheicaaL5
namespace Go.Ab
open Go.Proofs
theorem l_markMapS {C : Cx Try.prog 13} {Q : Post} {l : List M3} {n : Nat} {q : Int} (hn : n ≤ 4000000)
    (hQ : Q (.exit 0) ⟨[(1, .int .i64 q)], []⟩) : ∀ (d k : Nat), k + d = n → LP C (nav Try.f17.body.get! [1, 0, 1, 0, 0]) Q ⟨[(0, .imm (cs9 l) n), (1, .int .i64 q), (5, .int .i64 k)], []⟩ := by
  intro d
  induction d with
  | zero =>
    intro k hd
    refine LP.round ?_
    refine WP.seq ?_
    refine WP.seq (WP.region (l := [0, 1, 2, 3]) rfl ?_)
    refine Run.move rfl rfl rfl (.at rfl) ?_
    refine Run.move rfl rfl rfl (.at rfl) ?_
    refine Run.len rfl rfl rfl (.at rfl) is_26 rfl ?_
    refine Run.int rfl rfl rfl (.at rfl) (.at rfl) rfl ?_
    refine Run.nil ?_
    refine WP.cond_f (.at rfl) (by simp; omega) ?_
    exact WP.keep (WP.exit hQ) (by repeat (first | exact trivial | refine ⟨rfl, ?_⟩)) (by repeat (first | exact HSub.nil | refine HSub.keep ?_ | refine HSub.dead ?_))
  | succ d ih =>
    intro k hd
    refine LP.round ?_
    refine WP.seq ?_
    refine WP.seq (WP.region (l := [0, 1, 2, 3]) rfl ?_)
    refine Run.move rfl rfl rfl (.at rfl) ?_
    refine Run.move rfl rfl rfl (.at rfl) ?_
    refine Run.len rfl rfl rfl (.at rfl) is_26 rfl ?_
    refine Run.int rfl rfl rfl (.at rfl) (.at rfl) rfl ?_
    refine Run.nil ?_
    refine WP.cond_t (.at rfl) (by simp; omega) ?_
    refine WP.skip ?_
    refine WP.seq ?_
    refine WP.block ?_
    refine WP.skip ?_
    refine WP.region (l := [0, 1, 2]) rfl ?_
    refine Run.move rfl rfl rfl (.at rfl) ?_
    refine Run.add rfl rfl rfl (.at rfl) (.at rfl) (by omega) ?_
    refine Run.assign rfl rfl rfl (.at rfl) ?_
    refine Run.nil ?_
    exact LP.keep (ih (k + 1) (by omega)) (by repeat (first | exact trivial | refine ⟨rfl, ?_⟩)) (by repeat (first | exact HSub.nil | refine HSub.keep ?_ | refine HSub.dead ?_))
theorem c_markMapS (l : List M3) (q : Int) {n : Nat} (hn : n ≤ 4000000) : Pure Try.prog 17 [.imm (cs9 l) n, .int .i64 q] (.int .i64 q) := by
  refine Pure.body 0 (n := 13) (fn := Try.f17) (c := Try.f17.body.get!) fn_17 rfl nm_17 rfl rfl fun C => ?_
  refine WP.seq (WP.region (l := [0]) rfl ?_)
  refine Run.assign rfl rfl rfl (.at rfl) ?_
  refine Run.nil ?_
  refine WP.seq ?_
  refine WP.seq (WP.region (l := [0]) rfl ?_)
  refine Run.assign rfl rfl rfl (.at rfl) ?_
  refine Run.nil ?_
  refine WP.block ?_
  refine WP.loop (LP.keep (l_markMapS (l := l) (n := n) (q := q) hn ?_ n 0 (by omega)) (by repeat (first | exact trivial | refine ⟨rfl, ?_⟩)) (by repeat (first | exact HSub.nil | refine HSub.keep ?_ | refine HSub.dead ?_)))
  refine WP.seq (WP.region (l := [0, 1]) rfl ?_)
  refine Run.move rfl rfl rfl (.at rfl) ?_
  refine Run.assign rfl rfl rfl (.at rfl) ?_
  refine Run.nil ?_
  refine WP.ret ?_
  exact Ends.pure (.tmp rfl .nil) rfl
theorem l_eqPointSS {C : Cx Try.prog 27} {Q : Post} {la lb : List (List V3)} {n : Nat} (hl : n ≤ 4000000) (ha : la.length = n) (hb : lb.length = n) (hs : ∀ l ∈ la, l.length ≤ 4000000)
    (hQ : la = lb → Q (.exit 0) ⟨[], []⟩) (hR : la ≠ lb → Q .ret ⟨[(4, .bool false)], []⟩) :
    ∀ (d k : Nat), k + d = n → la.take k = lb.take k → LP C (nav Try.f16.body.get! [1, 1, 0, 1, 0, 0]) Q ⟨[(0, .imm (nest la) n), (1, .imm (nest lb) n), (5, .int .i64 k)], []⟩ := by
  intro d
  induction d with
  | zero =>
    intro k hd he
    have he' : la = lb := by rwa [List.take_of_length_le (by omega), List.take_of_length_le (by omega)] at he
    refine LP.round ?_
    refine WP.seq ?_
    refine WP.seq (WP.region (l := [0, 1, 2, 3]) rfl ?_)
    refine Run.move rfl rfl rfl (.at rfl) ?_
    refine Run.move rfl rfl rfl (.at rfl) ?_
    refine Run.len rfl rfl rfl (.at rfl) is_36 rfl ?_
    refine Run.int rfl rfl rfl (.at rfl) (.at rfl) rfl ?_
    refine Run.nil ?_
    refine WP.cond_f (.at rfl) (by simp; omega) ?_
    exact WP.keep (WP.exit (hQ he')) (by repeat (first | exact trivial | refine ⟨rfl, ?_⟩)) (by repeat (first | exact HSub.nil | refine HSub.keep ?_ | refine HSub.dead ?_))
  | succ d ih =>
    intro k hd he
    have hk : k < n := by omega
    have h1 := hs _ (getD_mem (z := []) (show k < la.length by omega))
    refine LP.round ?_
    refine WP.seq ?_
    refine WP.seq (WP.region (l := [0, 1, 2, 3]) rfl ?_)
    refine Run.move rfl rfl rfl (.at rfl) ?_
    refine Run.move rfl rfl rfl (.at rfl) ?_
    refine Run.len rfl rfl rfl (.at rfl) is_36 rfl ?_
    refine Run.int rfl rfl rfl (.at rfl) (.at rfl) rfl ?_
    refine Run.nil ?_
    refine WP.cond_t (.at rfl) (by simp; omega) ?_
    refine WP.skip ?_
    refine WP.seq ?_
    refine WP.block ?_
    refine WP.seq (WP.draw mx_0 ?_)
    refine Drawn.calmR ?_
    refine' DrawR.op 0 17 0 [(0, none)] rfl rfl (fun rest => ?_) ?_
    rotate_left
    · skip
      refine Run.move rfl rfl rfl (.at rfl) ?_
      exact single_nil
    refine' DrawR.op 1 18 1 [(5, none)] rfl rfl (fun rest => ?_) ?_
    rotate_left
    · skip
      refine Run.move rfl rfl rfl (.at rfl) ?_
      exact single_nil
    refine' DrawR.op 2 19 2 [(17, some 1), (18, some 0)] rfl rfl (fun rest => ?_) ?_
    rotate_left
    · skip
      refine Run.idx_imm (j := k) rfl rfl rfl (.at rfl) (.at rfl) sl_36_1 rfl hk ?_
      exact single_nil
    refine' DrawR.op 3 20 3 [(19, some 0)] rfl rfl (fun rest => ?_) ?_
    rotate_left
    · skip
      refine Run.load rfl rfl rfl (.at rfl) .imm sc_51 (nest_at (by omega)) ?_
      exact single_nil
    refine' DrawR.op 4 21 4 [(1, none)] rfl rfl (fun rest => ?_) ?_
    rotate_left
    · skip
      refine Run.move rfl rfl rfl (.at rfl) ?_
      exact single_nil
    refine' DrawR.op 5 22 5 [(5, none)] rfl rfl (fun rest => ?_) ?_
    rotate_left
    · skip
      refine Run.move rfl rfl rfl (.at rfl) ?_
      exact single_nil
    refine' DrawR.op 6 23 6 [(21, some 1), (22, some 0)] rfl rfl (fun rest => ?_) ?_
    rotate_left
    · skip
      refine Run.idx_imm (j := k) rfl rfl rfl (.at rfl) (.at rfl) sl_36_1 rfl hk ?_
      exact single_nil
    refine' DrawR.op 7 24 7 [(23, some 0)] rfl rfl (fun rest => ?_) ?_
    rotate_left
    · skip
      refine Run.load rfl rfl rfl (.at rfl) .imm sc_51 (nest_at (by omega)) ?_
      exact single_nil
    refine' DrawR.op 8 25 8 [(20, some 4), (24, some 0)] rfl rfl (fun rest => ?_) ?_
    rotate_left
    · skip
      refine Run.call rfl rfl rfl (.at rfl) (.cons (.at rfl) (.cons (.at rfl) .nil)) (c_eqPointS (la.getD k []) (lb.getD k []) (n := (la.getD k []).length) (m := (lb.getD k []).length) h1 rfl rfl) ?_
      exact single_nil
    refine' DrawR.op 9 26 9 [(25, some 0)] rfl rfl (fun rest => ?_) ?_
    rotate_left
    · skip
      refine Run.not rfl rfl rfl (.at rfl) ?_
      exact single_nil
    refine DrawR.tail [] rfl (by kernel_rfl) ?_
    refine Run.nil ?_
    refine WP.cond (.at rfl) (fun hc2 => ?_) (fun hc2 => ?_)
    · have hne : la ≠ lb := by
        intro h
        subst h
        simp at hc2
      refine WP.seq (WP.region (l := [0]) rfl ?_)
      refine Run.assign rfl rfl rfl (.at rfl) ?_
      refine Run.nil ?_
      exact WP.keep (WP.ret (hR hne)) (by repeat (first | exact trivial | refine ⟨rfl, ?_⟩)) (by repeat (first | exact HSub.nil | refine HSub.keep ?_ | refine HSub.dead ?_))
    · have he' : la.take (k + 1) = lb.take (k + 1) := by
        simp only [Bool.not_eq_false', decide_eq_true_eq] at hc2
        rw [take_getD (z := []) (by omega), take_getD (z := []) (by omega), he, hc2]
      refine WP.skip ?_
      refine WP.region (l := [0, 1, 2]) rfl ?_
      refine Run.move rfl rfl rfl (.at rfl) ?_
      refine Run.add rfl rfl rfl (.at rfl) (.at rfl) (by omega) ?_
      refine Run.assign rfl rfl rfl (.at rfl) ?_
      refine Run.nil ?_
      exact LP.keep (ih (k + 1) (by omega) he') (by repeat (first | exact trivial | refine ⟨rfl, ?_⟩)) (by repeat (first | exact HSub.nil | refine HSub.keep ?_ | refine HSub.dead ?_))
theorem c_eqPointSS (la lb : List (List V3)) {n m : Nat} (hl : n ≤ 4000000) (ha : la.length = n) (hb : lb.length = m) (hs : ∀ l ∈ la, l.length ≤ 4000000) : Pure Try.prog 16 [.imm (nest la) n, .imm (nest lb) m] (.bool (decide (la = lb))) := by
  refine Pure.body 0 (n := 27) (fn := Try.f16) (c := Try.f16.body.get!) fn_16 rfl nm_16 rfl rfl fun C => ?_
  refine WP.seq (WP.region (l := [0]) rfl ?_)
  refine Run.assign rfl rfl rfl (.at rfl) ?_
  refine Run.nil ?_
  refine WP.seq ?_
  refine WP.seq (WP.region (l := [0, 1, 2, 3, 4]) rfl ?_)
  refine Run.move rfl rfl rfl (.at rfl) ?_
  refine Run.len rfl rfl rfl (.at rfl) is_36 rfl ?_
  refine Run.move rfl rfl rfl (.at rfl) ?_
  refine Run.len rfl rfl rfl (.at rfl) is_36 rfl ?_
  refine Run.int rfl rfl rfl (.at rfl) (.at rfl) rfl ?_
  refine Run.nil ?_
  refine WP.cond (.at rfl) (fun hc0 => ?_) (fun hc0 => ?_)
  · skip
    refine WP.seq (WP.region (l := [0]) rfl ?_)
    refine Run.assign rfl rfl rfl (.at rfl) ?_
    refine Run.nil ?_
    refine WP.ret ?_
    exact Ends.pure (.tmp rfl .nil) (by
      have h : ¬ la = lb := by
        intro h
        subst h
        simp only [bne_iff_ne, ne_eq] at hc0
        omega
      rw [decide_eq_false h]; rfl)
  · obtain rfl : m = n := by simp at hc0; omega
    refine WP.skip ?_
    refine WP.seq ?_
    refine WP.seq (WP.region (l := [0]) rfl ?_)
    refine Run.assign rfl rfl rfl (.at rfl) ?_
    refine Run.nil ?_
    refine WP.block ?_
    refine WP.loop (LP.keep (l_eqPointSS (la := la) (lb := lb) hl ha hb hs (fun h => ?_) (fun h => ?_) m 0 (by omega) rfl) (by repeat (first | exact trivial | refine ⟨rfl, ?_⟩)) (by repeat (first | exact HSub.nil | refine HSub.keep ?_ | refine HSub.dead ?_)))
    rotate_left
    · exact Ends.pure (.tmp rfl .nil) (by rw [decide_eq_false h]; rfl)
    refine WP.seq (WP.region (l := [0]) rfl ?_)
    refine Run.assign rfl rfl rfl (.at rfl) ?_
    refine Run.nil ?_
    refine WP.ret ?_
    exact Ends.pure (.tmp rfl .nil) (by rw [decide_eq_true h]; rfl)
/-- The same blocks, marked. -/
def marksB : Int → List (Nat × List V3) → List (Nat × List V3)
  | _, [] => []
  | q, e :: r => (e.1, markTo e.2 q e.2.length) :: marksB (q + 3 * e.2.length) r
theorem marksB_snd : ∀ (q : Int) (f : List (Nat × List V3)), (marksB q f).map Prod.snd = marksF q (f.map Prod.snd)
  | _, [] => rfl
  | q, e :: r => by simp only [marksB, marksF, List.map_cons, marksB_snd]
theorem marksB_famA (i : Nat) : ∀ (q : Int) (f : List (Nat × List V3)), famA i (marksB q f) = famA i f
  | _, [] => rfl
  | q, e :: r => by
    have := marksB_famA i (q + 3 * e.2.length) r
    unfold famA at this ⊢
    simp only [marksB, List.map_cons, markTo_length, this]
theorem marksB_snoc : ∀ (q : Int) (f : List (Nat × List V3)) (e : Nat × List V3), marksB q (f ++ [e]) = marksB q f ++ [(e.1, markTo e.2 (endF q (f.map Prod.snd)) e.2.length)]
  | q, [], e => rfl
  | q, x :: r, e => by simp only [List.cons_append, marksB, endF, List.map_cons, marksB_snoc (q + 3 * x.2.length) r e]
theorem marksB_length : ∀ (q : Int) (f : List (Nat × List V3)), (marksB q f).length = f.length
  | _, [] => rfl
  | q, e :: r => by simp [marksB, marksB_length]
theorem famA_at {i : Nat} {f : List (Nat × List V3)} {k : Nat} (h : k < f.length) : (famA i f)[0 + k * 1]? = some (.own i (f.getD k (0, [])).1 3 0 (f.getD k (0, [])).2.length (f.getD k (0, [])).2.length true) := by
  simp [famA, h]
theorem l_markPointSS {C : Cx Try.prog 19} {Q : Post} {q : Int} {bo n : Nat} {f : List (Nat × List V3)} (hq : 0 ≤ q ∧ q ≤ 1000) (hn : n ≤ 1000) (hf : f.length = n) (hs : ∀ e ∈ f, e.2.length ≤ 200)
    (hQ : Q (.exit 0) ⟨[(1, .int .i64 (endF q (f.map Prod.snd)))], [[(bo, famA 0 f)], famH (marksB q f), [], []]⟩) :
    ∀ (d k : Nat) (x : Int) (h1 : Ar), k + d = n → x = endF q ((f.take k).map Prod.snd) → h1 = famH (marksB q (f.take k)) ++ famH (f.drop k) →
      LP C (nav Try.f18.body.get! [1, 0, 1, 0, 0]) Q ⟨[(0, .own 0 bo 1 0 n n true), (1, .int .i64 x), (5, .int .i64 k)], [[(bo, famA 0 f)], h1, [], []]⟩ := by
  intro d
  induction d with
  | zero =>
    intro k x h1 hd hx hh
    rw [List.take_of_length_le (by omega)] at hx hh
    rw [List.drop_eq_nil_of_le (by omega)] at hh
    have hh' : h1 = famH (marksB q f) := by rw [hh]; exact List.append_nil _
    subst hx hh'
    refine LP.round ?_
    refine WP.seq ?_
    refine WP.seq (WP.region (l := [0, 1, 2, 3]) rfl ?_)
    refine Run.move rfl rfl rfl (.at rfl) ?_
    refine Run.move rfl rfl rfl (.at rfl) ?_
    refine Run.len rfl rfl rfl (.at rfl) is_36 rfl ?_
    refine Run.int rfl rfl rfl (.at rfl) (.at rfl) rfl ?_
    refine Run.nil ?_
    refine WP.cond_f (.at rfl) (by simp; omega) ?_
    exact WP.keep (WP.exit hQ) (by repeat (first | exact trivial | refine ⟨rfl, ?_⟩)) (by repeat (first | exact HSub.nil | refine HSub.keep ?_ | refine HSub.dead ?_))
  | succ d ih =>
    intro k x h1 hd hx hh
    have hk : k < f.length := by omega
    have ht := take_getD (z := ((0, []) : Nat × List V3)) hk
    have hdr : f.drop k = f.getD k (0, []) :: f.drop (k + 1) := by
      rw [List.drop_eq_getElem_cons hk]
      simp [hk]
    have hrng := endF_rng q ((f.take k).map Prod.snd) (by
      intro l hl
      obtain ⟨e, he, rfl⟩ := List.mem_map.1 hl
      exact hs e (List.mem_of_mem_take he))
    rw [← hx, List.length_map, List.length_take] at hrng
    have hsk := hs _ (getD_mem (z := ((0, []) : Nat × List V3)) hk)
    have hxn : endF q ((f.take (k + 1)).map Prod.snd) = x + 3 * (f.getD k (0, [])).2.length := by
      rw [ht, List.map_append, hx]
      exact endF_snoc _ _ _
    have hhn : famH (marksB q (f.take (k + 1))) ++ famH (f.drop (k + 1)) = famH (marksB q (f.take k)) ++ ([((f.getD k (0, [])).1, cs3 (markTo (f.getD k (0, [])).2 x (f.getD k (0, [])).2.length))] ++ famH (f.drop (k + 1))) := by
      rw [ht, marksB_snoc, famH_append, ← hx, List.append_assoc]
      rfl
    have hhe : famH (marksB q (f.take k)) ++ famH (f.drop k) = famH (marksB q (f.take k)) ++ ([((f.getD k (0, [])).1, cs3 (f.getD k (0, [])).2)] ++ famH (f.drop (k + 1))) := by
      rw [hdr]
      rfl
    subst hh
    rw [hhe]
    refine LP.round ?_
    refine WP.seq ?_
    refine WP.seq (WP.region (l := [0, 1, 2, 3]) rfl ?_)
    refine Run.move rfl rfl rfl (.at rfl) ?_
    refine Run.move rfl rfl rfl (.at rfl) ?_
    refine Run.len rfl rfl rfl (.at rfl) is_36 rfl ?_
    refine Run.int rfl rfl rfl (.at rfl) (.at rfl) rfl ?_
    refine Run.nil ?_
    refine WP.cond_t (.at rfl) (by simp; omega) ?_
    refine WP.skip ?_
    refine WP.seq ?_
    refine WP.block ?_
    refine WP.split 1 3 _ _ (by decide) rfl rfl ?_
    refine WP.split 3 2 _ _ (by decide) rfl rfl ?_
    refine WP.region (l := [0, 1, 2, 3, 4, 5, 6]) rfl ?_
    refine Run.move rfl rfl rfl (.at rfl) ?_
    refine Run.move rfl rfl rfl (.at rfl) ?_
    refine Run.idx (j := k) rfl rfl rfl (.at rfl) (.at rfl) sl_36_1 rfl (show k < n by omega) ?_
    refine Run.load rfl rfl rfl (.at rfl) (place_adr rfl) sc_51 (famA_at hk) ?_
    refine Run.weak 15 rfl (fun _ _ _ h => own_name 3 h) ?_
    refine Run.move rfl rfl rfl (.at rfl) ?_
    refine Run.acts [3] [3] rfl rfl rfl (.at rfl) (.cons (.at rfl) (.cons (.at rfl) .nil)) (LendL.refl _ _) (c_markPointS 3 (f.getD k (0, [])).1 (f.getD k (0, [])).2.length (f.getD k (0, [])).2.length true (f.getD k (0, [])).2 x (by omega) (by omega) (Nat.le_refl _)) rfl rfl rfl (fun x H h => ?_) (fun x H h => ?_)
    · obtain ⟨rfl, rfl⟩ := h; exact ⟨rfl, by first | rfl | simp [cleanH, cs3_cl]; done | simp [cleanH, ints_cl]; done | simp [cleanH, cs3_cl, ints_cl]; done | simp [cleanH, cs9_cl]; done | simp [cleanH, cs9_cl, cs3_cl, ints_cl]; done⟩
    obtain ⟨rfl, rfl⟩ := h
    refine Run.assign rfl rfl rfl (.at rfl) ?_
    refine Run.nil ?_
    refine WP.join 3 2 (by decide) rfl rfl ?_
    refine WP.join 1 3 (by decide) rfl rfl ?_
    refine WP.region (l := [0, 1, 2]) rfl ?_
    refine Run.move rfl rfl rfl (.at rfl) ?_
    refine Run.add rfl rfl rfl (.at rfl) (.at rfl) (by omega) ?_
    refine Run.assign rfl rfl rfl (.at rfl) ?_
    refine Run.nil ?_
    exact LP.keep (ih (k + 1) _ _ (by omega) hxn.symm hhn.symm) (by repeat (first | exact trivial | refine ⟨rfl, ?_⟩)) (by repeat (first | exact HSub.nil | refine HSub.keep ?_ | refine HSub.dead ?_))
theorem c_markPointSS (id bo n : Nat) (q : Int) (f : List (Nat × List V3)) (hq : 0 ≤ q ∧ q ≤ 1000) (hn : n ≤ 1000) (hf : f.length = n) (hs : ∀ e ∈ f, e.2.length ≤ 200) :
    Acts Try.prog 18 [.own id bo 1 0 n n true, .int .i64 q] [[(bo, famA 0 f)], famH f] (fun x H => x = .int .i64 (endF q (f.map Prod.snd)) ∧ H = [[(bo, famA 0 f)], famH (marksB q f)]) := by
  refine Acts.body 2 (n := 19) (fn := Try.f18) (c := Try.f18.body.get!) fn_18 rfl nm_18 rfl rfl fun C => ?_
  refine WP.seq (WP.region (l := [0]) rfl ?_)
  refine Run.assign rfl rfl rfl (.at rfl) ?_
  refine Run.nil ?_
  refine WP.seq ?_
  refine WP.seq (WP.region (l := [0]) rfl ?_)
  refine Run.assign rfl rfl rfl (.at rfl) ?_
  refine Run.nil ?_
  refine WP.block ?_
  refine WP.weak 0 rfl (fun _ _ _ h => own_name 0 h) ?_
  refine WP.loop (LP.keep (l_markPointSS (q := q) (f := f) (n := n) hq hn hf hs ?_ n 0 q (famH f) (by omega) rfl rfl) (by repeat (first | exact trivial | refine ⟨rfl, ?_⟩)) (by repeat (first | exact HSub.nil | refine HSub.keep ?_ | refine HSub.dead ?_)))
  refine WP.seq (WP.region (l := [0, 1]) rfl ?_)
  refine Run.move rfl rfl rfl (.at rfl) ?_
  refine Run.assign rfl rfl rfl (.at rfl) ?_
  refine Run.nil ?_
  refine WP.ret ?_
  exact ⟨_, [[(bo, famA 0 f)], famH (marksB q f)], (.tmp rfl .nil), Moved.pick (is := [0, 1]) rfl, rfl, rfl⟩
theorem l_markPointSS_nil {C : Cx Try.prog 19} {Q : Post} {q : Int} (hQ : Q (.exit 0) ⟨[(1, .int .i64 q)], []⟩) :
    LP C (nav Try.f18.body.get! [1, 0, 1, 0, 0]) Q ⟨[(0, .nilsl), (1, .int .i64 q), (5, .int .i64 0)], []⟩ := by
  refine LP.round ?_
  refine WP.seq ?_
  refine WP.seq (WP.region (l := [0, 1, 2, 3]) rfl ?_)
  refine Run.move rfl rfl rfl (.at rfl) ?_
  refine Run.move rfl rfl rfl (.at rfl) ?_
  refine Run.len rfl rfl rfl (.at rfl) is_36 rfl ?_
  refine Run.int rfl rfl rfl (.at rfl) (.at rfl) rfl ?_
  refine Run.nil ?_
  refine WP.cond_f (.at rfl) rfl ?_
  exact WP.keep (WP.exit hQ) (by repeat (first | exact trivial | refine ⟨rfl, ?_⟩)) (by repeat (first | exact HSub.nil | refine HSub.keep ?_ | refine HSub.dead ?_))
theorem c_markPointSS_nil (q : Int) : Pure Try.prog 18 [.nilsl, .int .i64 q] (.int .i64 q) := by
  refine Pure.body 0 (n := 19) (fn := Try.f18) (c := Try.f18.body.get!) fn_18 rfl nm_18 rfl rfl fun C => ?_
  refine WP.seq (WP.region (l := [0]) rfl ?_)
  refine Run.assign rfl rfl rfl (.at rfl) ?_
  refine Run.nil ?_
  refine WP.seq ?_
  refine WP.seq (WP.region (l := [0]) rfl ?_)
  refine Run.assign rfl rfl rfl (.at rfl) ?_
  refine Run.nil ?_
  refine WP.block ?_
  refine WP.loop (LP.keep (l_markPointSS_nil (q := q) ?_) (by repeat (first | exact trivial | refine ⟨rfl, ?_⟩)) (by repeat (first | exact HSub.nil | refine HSub.keep ?_ | refine HSub.dead ?_)))
  refine WP.seq (WP.region (l := [0, 1]) rfl ?_)
  refine Run.move rfl rfl rfl (.at rfl) ?_
  refine Run.assign rfl rfl rfl (.at rfl) ?_
  refine Run.nil ?_
  refine WP.ret ?_
  exact Ends.pure (.tmp rfl .nil) rfl
theorem l_heldPointSS {C : Cx Try.prog 21} {Q : Post} {q : Int} {n : Nat} {L : List (List V3)} (hq : 0 ≤ q ∧ q ≤ 1000) (hn : n ≤ 1000) (hL : L.length = n) (hs : ∀ l ∈ L, l.length ≤ 200) (hm : heldF q L)
    (hQ : Q (.exit 0) ⟨[(1, .int .i64 (endF q L))], []⟩) :
    ∀ (d k : Nat) (x : Int), k + d = n → x = endF q (L.take k) → LP C (nav Try.f19.body.get! [1, 0, 1, 0, 0]) Q ⟨[(0, .imm (nest L) n), (1, .int .i64 x), (5, .int .i64 k)], []⟩ := by
  intro d
  induction d with
  | zero =>
    intro k x hd hx
    rw [List.take_of_length_le (by omega)] at hx
    subst hx
    refine LP.round ?_
    refine WP.seq ?_
    refine WP.seq (WP.region (l := [0, 1, 2, 3]) rfl ?_)
    refine Run.move rfl rfl rfl (.at rfl) ?_
    refine Run.move rfl rfl rfl (.at rfl) ?_
    refine Run.len rfl rfl rfl (.at rfl) is_36 rfl ?_
    refine Run.int rfl rfl rfl (.at rfl) (.at rfl) rfl ?_
    refine Run.nil ?_
    refine WP.cond_f (.at rfl) (by simp; omega) ?_
    exact WP.keep (WP.exit hQ) (by repeat (first | exact trivial | refine ⟨rfl, ?_⟩)) (by repeat (first | exact HSub.nil | refine HSub.keep ?_ | refine HSub.dead ?_))
  | succ d ih =>
    intro k x hd hx
    have hk : k < L.length := by omega
    have ht := take_getD (z := ([] : List V3)) hk
    have hdr : L.drop k = L.getD k [] :: L.drop (k + 1) := by
      rw [List.drop_eq_getElem_cons hk]
      simp [hk]
    have hrng := endF_rng q (L.take k) fun l hl => hs l (List.mem_of_mem_take hl)
    rw [← hx, List.length_take] at hrng
    have hsk := hs _ (getD_mem (z := ([] : List V3)) hk)
    have hxn : endF q (L.take (k + 1)) = x + 3 * (L.getD k []).length := by
      rw [ht, hx]
      exact endF_snoc _ _ _
    have hmk := heldF_drop k hm
    rw [hdr, ← hx] at hmk
    refine LP.round ?_
    refine WP.seq ?_
    refine WP.seq (WP.region (l := [0, 1, 2, 3]) rfl ?_)
    refine Run.move rfl rfl rfl (.at rfl) ?_
    refine Run.move rfl rfl rfl (.at rfl) ?_
    refine Run.len rfl rfl rfl (.at rfl) is_36 rfl ?_
    refine Run.int rfl rfl rfl (.at rfl) (.at rfl) rfl ?_
    refine Run.nil ?_
    refine WP.cond_t (.at rfl) (by simp; omega) ?_
    refine WP.skip ?_
    refine WP.seq ?_
    refine WP.block ?_
    refine WP.seq (WP.region (l := [0, 1, 2, 3, 4, 5, 6]) rfl ?_)
    refine Run.move rfl rfl rfl (.at rfl) ?_
    refine Run.move rfl rfl rfl (.at rfl) ?_
    refine Run.idx_imm (j := k) rfl rfl rfl (.at rfl) (.at rfl) sl_36_1 rfl (show k < n by omega) ?_
    refine Run.load rfl rfl rfl (.at rfl) .imm sc_51 (nest_at hk) ?_
    refine Run.move rfl rfl rfl (.at rfl) ?_
    refine Run.call rfl rfl rfl (.at rfl) (.cons (.at rfl) (.cons (.at rfl) .nil)) (c_heldPointS (L.getD k []) x (n := (L.getD k []).length) (by omega) (by omega) rfl hmk.1) ?_
    refine Run.assign rfl rfl rfl (.at rfl) ?_
    refine Run.nil ?_
    refine WP.seq (WP.region (l := [0, 1]) rfl ?_)
    refine Run.move rfl rfl rfl (.at rfl) ?_
    refine Run.int rfl rfl rfl (.at rfl) (.at rfl) rfl ?_
    refine Run.nil ?_
    refine WP.cond_f (.at rfl) (by simp; omega) ?_
    refine WP.skip ?_
    refine WP.region (l := [0, 1, 2]) rfl ?_
    refine Run.move rfl rfl rfl (.at rfl) ?_
    refine Run.add rfl rfl rfl (.at rfl) (.at rfl) (by omega) ?_
    refine Run.assign rfl rfl rfl (.at rfl) ?_
    refine Run.nil ?_
    exact LP.keep (ih (k + 1) _ (by omega) hxn.symm) (by repeat (first | exact trivial | refine ⟨rfl, ?_⟩)) (by repeat (first | exact HSub.nil | refine HSub.keep ?_ | refine HSub.dead ?_))
theorem c_heldPointSS (L : List (List V3)) (q : Int) {n : Nat} (hq : 0 ≤ q ∧ q ≤ 1000) (hn : n ≤ 1000) (hL : L.length = n) (hs : ∀ l ∈ L, l.length ≤ 200) (hm : heldF q L) :
    Pure Try.prog 19 [.imm (nest L) n, .int .i64 q] (.int .i64 (endF q L)) := by
  refine Pure.body 0 (n := 21) (fn := Try.f19) (c := Try.f19.body.get!) fn_19 rfl nm_19 rfl rfl fun C => ?_
  refine WP.seq (WP.region (l := [0]) rfl ?_)
  refine Run.assign rfl rfl rfl (.at rfl) ?_
  refine Run.nil ?_
  refine WP.seq ?_
  refine WP.seq (WP.region (l := [0]) rfl ?_)
  refine Run.assign rfl rfl rfl (.at rfl) ?_
  refine Run.nil ?_
  refine WP.block ?_
  refine WP.loop (LP.keep (l_heldPointSS (L := L) (q := q) hq hn hL hs hm ?_ n 0 q (by omega) rfl) (by repeat (first | exact trivial | refine ⟨rfl, ?_⟩)) (by repeat (first | exact HSub.nil | refine HSub.keep ?_ | refine HSub.dead ?_)))
  refine WP.seq (WP.region (l := [0, 1]) rfl ?_)
  refine Run.move rfl rfl rfl (.at rfl) ?_
  refine Run.assign rfl rfl rfl (.at rfl) ?_
  refine Run.nil ?_
  refine WP.ret ?_
  exact Ends.pure (.tmp rfl .nil) rfl
theorem c_orbLaw0 (p : Int) (l : List M3) {n : Nat} (hl : l.length = n) (hn : n ≤ 9223372036854775807) (h : 1000000 < n) : Pure Try.prog 5 [.int .i64 p, .imm (cs9 l) n] (.bool true) := by
  refine Pure.body 0 (n := 101) (fn := Try.f5) (c := Try.f5.body.get!) fn_5 rfl nm_5 rfl rfl fun C => ?_
  refine WP.seq (WP.region (l := [0]) rfl ?_)
  refine Run.assign rfl rfl rfl (.at rfl) ?_
  refine Run.nil ?_
  refine WP.seq (WP.region (l := [0]) rfl ?_)
  refine Run.assign rfl rfl rfl (.at rfl) ?_
  refine Run.nil ?_
  refine WP.seq (WP.region (l := [0, 1, 2, 3]) rfl ?_)
  refine Run.move rfl rfl rfl (.at rfl) ?_
  refine Run.move rfl rfl rfl (.at rfl) ?_
  refine Run.call rfl rfl rfl (.at rfl) (.cons (.at rfl) (.cons (.at rfl) .nil)) (c_szMapS 1000000 (by decide) hn) ?_
  refine Run.assign rfl rfl rfl (.at rfl) ?_
  refine Run.nil ?_
  refine WP.seq ?_
  refine WP.seq (WP.region (l := [0, 1]) rfl ?_)
  refine Run.move rfl rfl rfl (.at rfl) ?_
  refine Run.int rfl rfl rfl (.at rfl) (.at rfl) rfl ?_
  refine Run.nil ?_
  refine WP.cond_t (.at rfl) (by rw [if_pos (by omega)]; rfl) ?_
  refine WP.seq (WP.region (l := [0]) rfl ?_)
  refine Run.assign rfl rfl rfl (.at rfl) ?_
  refine Run.nil ?_
  refine WP.ret ?_
  exact Ends.pure (.tmp rfl .nil) rfl
theorem c_orbLaw1 (p : Int) (l : List M3) {n : Nat} (hl : l.length = n) (hn : n ≤ 1000000) (h : codeL p l [] ≠ 0) : Pure Try.prog 5 [.int .i64 p, .imm (cs9 l) n] (.bool true) := by
  have hrm := room_le n
  have hpl := padM_length l hl
  have lend : ∀ {H : List Ar} {id b : Nat}, H[id]? = some [(b, cs9 (padM l))] → Lend H (.own id b 9 0 n (n + room n) false) (.imm (cs9 l) n) := fun h => Lend.one h (by omega) (padM_take l)
  have lnil : ∀ {H : List Ar}, n = 0 → Lend H .nilsl (.imm (cs9 l) n) := fun h => by subst h; exact .nil
  have hS := c_specOrbits p l (n := n) (by omega) hl
  have hI := c_implOrbitsNo p l (n := n) (by omega) hl h
  unfold orbR at hS
  rw [if_neg h] at hS
  have hE := c_eqPointSS [] [] (n := 0) (m := 0) (by decide) rfl rfl (fun l h => by cases h)
  have hH := c_heldPointSS [] 101 (n := 0) (by decide) (by decide) rfl (fun l h => by cases h) trivial
  by_cases h0 : n = 0
  · skip
    refine Pure.body 4 (n := 101) (fn := Try.f5) (c := Try.f5.body.get!) fn_5 rfl nm_5 rfl rfl fun C => ?_
    refine WP.seq (WP.region (l := [0]) rfl ?_)
    refine Run.assign rfl rfl rfl (.at rfl) ?_
    refine Run.nil ?_
    refine WP.seq (WP.region (l := [0]) rfl ?_)
    refine Run.assign rfl rfl rfl (.at rfl) ?_
    refine Run.nil ?_
    refine WP.seq (WP.region (l := [0, 1, 2, 3]) rfl ?_)
    refine Run.move rfl rfl rfl (.at rfl) ?_
    refine Run.move rfl rfl rfl (.at rfl) ?_
    refine Run.call rfl rfl rfl (.at rfl) (.cons (.at rfl) (.cons (.at rfl) .nil)) (c_szMapS 1000000 (by decide) (by omega)) ?_
    refine Run.assign rfl rfl rfl (.at rfl) ?_
    refine Run.nil ?_
    refine WP.seq ?_
    refine WP.seq (WP.region (l := [0, 1]) rfl ?_)
    refine Run.move rfl rfl rfl (.at rfl) ?_
    refine Run.int rfl rfl rfl (.at rfl) (.at rfl) rfl ?_
    refine Run.nil ?_
    refine WP.cond_f (.at rfl) (by rw [if_neg (by omega)]; simp; omega) ?_
    refine WP.skip ?_
    refine WP.seq (WP.region (l := [0, 1, 2, 3, 4, 5, 6, 7, 8]) rfl ?_)
    refine Run.move rfl rfl rfl (.at rfl) ?_
    refine Run.move rfl rfl rfl (.at rfl) ?_
    refine Run.acts [] [0] rfl rfl rfl (.at rfl) (.cons (.at rfl) (.cons (.at rfl) .nil)) (LendL.refl _ _) (c_toMapS 0 l false hn hl rfl) rfl rfl rfl (fun x H h => ?_) (fun x H h => ?_)
    · obtain ⟨b24, rfl, rfl⟩ := h; exact ⟨rfl, by first | rfl | simp [cleanH, cs3_cl]; done | simp [cleanH, ints_cl]; done | simp [cleanH, cs3_cl, ints_cl]; done | simp [cleanH, cs9_cl]; done | simp [cleanH, cs9_cl, cs3_cl, ints_cl]; done⟩
    obtain ⟨b24, rfl, rfl⟩ := h
    refine Run.acts [] [] rfl rfl rfl (.at rfl) (.cons (.at rfl) (.cons (.at rfl) .nil)) (.cons .refl (.cons (lend rfl) .nil)) (hS.acts) rfl rfl rfl (fun x H h => ?_) (fun x H h => ?_)
    · obtain ⟨rfl, rfl⟩ := h; exact ⟨rfl, by first | rfl | simp [cleanH, cs3_cl]; done | simp [cleanH, ints_cl]; done | simp [cleanH, cs3_cl, ints_cl]; done | simp [cleanH, cs9_cl]; done | simp [cleanH, cs9_cl, cs3_cl, ints_cl]; done⟩
    obtain ⟨rfl, rfl⟩ := h
    refine Run.move rfl rfl rfl (.at rfl) ?_
    refine Run.extract rfl rfl rfl (.at rfl) rfl ?_
    refine Run.extract rfl rfl rfl (.at rfl) rfl ?_
    refine Run.assign rfl rfl rfl (.at rfl) ?_
    refine Run.assign rfl rfl rfl (.at rfl) ?_
    refine Run.nil ?_
    refine WP.seq (WP.region (l := [0, 1, 2]) rfl ?_)
    refine Run.move rfl rfl rfl (.at rfl) ?_
    refine Run.acts [] [1] rfl rfl rfl (.at rfl) (.cons (.at rfl) (.cons (.at rfl) .nil)) (LendL.refl _ _) (c_toMapS 1 l false hn hl rfl) rfl rfl rfl (fun x H h => ?_) (fun x H h => ?_)
    · obtain ⟨b29, rfl, rfl⟩ := h; exact ⟨rfl, by first | rfl | simp [cleanH, cs3_cl]; done | simp [cleanH, ints_cl]; done | simp [cleanH, cs3_cl, ints_cl]; done | simp [cleanH, cs9_cl]; done | simp [cleanH, cs9_cl, cs3_cl, ints_cl]; done⟩
    obtain ⟨b29, rfl, rfl⟩ := h
    refine Run.assign rfl rfl rfl (.at rfl) ?_
    refine Run.nil ?_
    refine WP.seq (WP.region (l := [0, 1, 2, 3, 4, 5, 6, 7]) rfl ?_)
    refine Run.move rfl rfl rfl (.at rfl) ?_
    refine Run.move rfl rfl rfl (.at rfl) ?_
    refine Run.acts [] [] rfl rfl rfl (.at rfl) (.cons (.at rfl) (.cons (.at rfl) .nil)) (.cons .refl (.cons (lend rfl) .nil)) (hI.acts) rfl rfl rfl (fun x H h => ?_) (fun x H h => ?_)
    · obtain ⟨rfl, rfl⟩ := h; exact ⟨rfl, by first | rfl | simp [cleanH, cs3_cl]; done | simp [cleanH, ints_cl]; done | simp [cleanH, cs3_cl, ints_cl]; done | simp [cleanH, cs9_cl]; done | simp [cleanH, cs9_cl, cs3_cl, ints_cl]; done⟩
    obtain ⟨rfl, rfl⟩ := h
    refine Run.move rfl rfl rfl (.at rfl) ?_
    refine Run.extract rfl rfl rfl (.at rfl) rfl ?_
    refine Run.extract rfl rfl rfl (.at rfl) rfl ?_
    refine Run.assign rfl rfl rfl (.at rfl) ?_
    refine Run.assign rfl rfl rfl (.at rfl) ?_
    refine Run.nil ?_
    refine WP.seq ?_
    refine WP.trim (fr' := [(0, _), (1, _), (6, _), (7, _), (8, _), (9, _), (10, _)]) (H' := [_, _, _, _]) ?_ ⟨rfl, rfl, rfl, rfl, rfl, rfl, rfl, trivial⟩ rfl
    refine WP.seq (WP.region (l := [0, 1, 2, 3, 4, 5, 6, 7, 8]) rfl ?_)
    refine Run.move rfl rfl rfl (.at rfl) ?_
    refine Run.move rfl rfl rfl (.at rfl) ?_
    refine Run.acts [] [] rfl rfl rfl (.at rfl) (.cons (.at rfl) (.cons (.at rfl) .nil)) (.cons .nil (.cons .nil .nil)) (hE.acts) rfl rfl rfl (fun x H h => ?_) (fun x H h => ?_)
    · obtain ⟨rfl, rfl⟩ := h; exact ⟨rfl, by first | rfl | simp [cleanH, cs3_cl]; done | simp [cleanH, ints_cl]; done | simp [cleanH, cs3_cl, ints_cl]; done | simp [cleanH, cs9_cl]; done | simp [cleanH, cs9_cl, cs3_cl, ints_cl]; done⟩
    obtain ⟨rfl, rfl⟩ := h
    refine Run.not rfl rfl rfl (.at rfl) ?_
    refine Run.move rfl rfl rfl (.at rfl) ?_
    refine' Run.guarded rfl rfl rfl rfl rfl rfl (fun ht => ?_) ?_
    rotate_left
    · skip
      refine Run.move rfl rfl rfl (.at rfl) ?_
      exact single_nil
    refine' Run.guarded rfl rfl rfl rfl rfl rfl (fun ht => ?_) ?_
    rotate_left
    · skip
      refine Run.move rfl rfl rfl (.at rfl) ?_
      exact single_nil
    refine' Run.guarded rfl rfl rfl rfl rfl rfl (fun ht => ?_) ?_
    rotate_left
    · skip
      refine Run.int rfl rfl rfl (.opt rfl ht) (.opt rfl ht) rfl ?_
      exact single_nil
    refine Run.or rfl rfl rfl (.at rfl) (.at rfl) rfl ?_
    refine Run.nil ?_
    refine WP.cond_f (.at rfl) (by simp) ?_
    refine WP.skip ?_
    refine WP.seq ?_
    refine WP.seq (WP.region (l := [0, 1, 2, 3, 4]) rfl ?_)
    refine Run.move rfl rfl rfl (.at rfl) ?_
    refine Run.move rfl rfl rfl (.at rfl) ?_
    refine Run.acts [] [2] rfl rfl rfl (.at rfl) (.cons (.at rfl) (.cons (.at rfl) .nil)) (LendL.refl _ _) (c_toMapS 2 l false hn hl rfl) rfl rfl rfl (fun x H h => ?_) (fun x H h => ?_)
    · obtain ⟨b47, rfl, rfl⟩ := h; exact ⟨rfl, by first | rfl | simp [cleanH, cs3_cl]; done | simp [cleanH, ints_cl]; done | simp [cleanH, cs3_cl, ints_cl]; done | simp [cleanH, cs9_cl]; done | simp [cleanH, cs9_cl, cs3_cl, ints_cl]; done⟩
    obtain ⟨b47, rfl, rfl⟩ := h
    refine Run.acts [1, 2] [1, 2] rfl rfl rfl (.at rfl) (.cons (.at rfl) (.cons (.at rfl) .nil)) (LendL.refl _ _) (c_intactMapS 1 2 b29 b47 n (n + room n) (n + room n) false false (padM l) (padM l) hn hpl hpl (Nat.le_refl _) (Nat.le_refl _)) rfl rfl rfl (fun x H h => ?_) (fun x H h => ?_)
    · obtain ⟨rfl, rfl⟩ := h; exact ⟨rfl, by first | rfl | simp [cleanH, cs3_cl]; done | simp [cleanH, ints_cl]; done | simp [cleanH, cs3_cl, ints_cl]; done | simp [cleanH, cs9_cl]; done | simp [cleanH, cs9_cl, cs3_cl, ints_cl]; done⟩
    obtain ⟨rfl, rfl⟩ := h
    refine Run.not rfl rfl rfl (.at rfl) ?_
    refine Run.nil ?_
    refine WP.cond_f (.at rfl) (by simp) ?_
    refine WP.skip ?_
    refine WP.seq (WP.region (l := [0]) rfl ?_)
    refine Run.assign rfl rfl rfl (.at rfl) ?_
    refine Run.nil ?_
    refine WP.seq (WP.region (l := [0, 1, 2, 3]) rfl ?_)
    refine Run.move rfl rfl rfl (.at rfl) ?_
    refine Run.move rfl rfl rfl (.at rfl) ?_
    refine Run.acts [] [] rfl rfl rfl (.at rfl) (.cons (.at rfl) (.cons (.at rfl) .nil)) (.cons (lend rfl) (.cons .refl .nil)) ((c_markMapS l 101 (n := n) (by omega)).acts) rfl rfl rfl (fun x H h => ?_) (fun x H h => ?_)
    · obtain ⟨rfl, rfl⟩ := h; exact ⟨rfl, by first | rfl | simp [cleanH, cs3_cl]; done | simp [cleanH, ints_cl]; done | simp [cleanH, cs3_cl, ints_cl]; done | simp [cleanH, cs9_cl]; done | simp [cleanH, cs9_cl, cs3_cl, ints_cl]; done⟩
    obtain ⟨rfl, rfl⟩ := h
    refine Run.assign rfl rfl rfl (.at rfl) ?_
    refine Run.nil ?_
    refine WP.seq ?_
    refine WP.trim (fr' := [(0, _), (1, _), (6, _), (7, _), (9, _), (10, _), (11, _)]) (H' := [_, _, _, _]) ?_ ⟨rfl, rfl, rfl, rfl, rfl, rfl, rfl, trivial⟩ rfl
    refine WP.seq (WP.region (l := [0, 1, 2, 3, 4, 5, 6, 7, 8, 9, 10, 11, 12]) rfl ?_)
    refine Run.move rfl rfl rfl (.at rfl) ?_
    refine Run.int rfl rfl rfl (.at rfl) (.at rfl) rfl ?_
    refine Run.move rfl rfl rfl (.at rfl) ?_
    refine' Run.guarded rfl rfl rfl rfl rfl rfl (fun ht => ?_) ?_
    rotate_left
    · skip
      refine Run.move rfl rfl rfl (.at rfl) ?_
      exact single_nil
    refine' Run.guarded rfl rfl rfl rfl rfl rfl (fun ht => ?_) ?_
    rotate_left
    · skip
      refine Run.move rfl rfl rfl (.at rfl) ?_
      exact single_nil
    refine' Run.guarded rfl rfl rfl rfl rfl rfl (fun ht => ?_) ?_
    rotate_left
    · skip
      refine Run.acts [] [] rfl rfl rfl (.at rfl) (.cons (.opt rfl ht) (.cons (.opt rfl ht) .nil)) (.cons .nil (.cons .nil .nil)) (hE.acts) rfl rfl rfl (fun x H h => ?_) (fun x H h => ?_)
      · obtain ⟨rfl, rfl⟩ := h; exact ⟨rfl, by first | rfl | simp [cleanH, cs3_cl]; done | simp [cleanH, ints_cl]; done | simp [cleanH, cs3_cl, ints_cl]; done | simp [cleanH, cs9_cl]; done | simp [cleanH, cs9_cl, cs3_cl, ints_cl]; done⟩
      obtain ⟨rfl, rfl⟩ := h
      exact single_nil
    refine' Run.guarded rfl rfl rfl rfl rfl rfl (fun ht => ?_) ?_
    rotate_left
    · skip
      refine Run.not rfl rfl rfl (.opt rfl ht) ?_
      exact single_nil
    refine Run.or rfl rfl rfl (.at rfl) (.at rfl) rfl ?_
    refine Run.move rfl rfl rfl (.at rfl) ?_
    refine' Run.guarded rfl rfl rfl rfl rfl rfl (fun ht => ?_) ?_
    rotate_left
    · skip
      refine Run.move rfl rfl rfl (.at rfl) ?_
      exact single_nil
    refine' Run.guarded rfl rfl rfl rfl rfl rfl (fun ht => ?_) ?_
    rotate_left
    · skip
      refine Run.move rfl rfl rfl (.at rfl) ?_
      exact single_nil
    refine' Run.guarded rfl rfl rfl rfl rfl rfl (fun ht => ?_) ?_
    rotate_left
    · skip
      refine Run.int rfl rfl rfl (.opt rfl ht) (.opt rfl ht) rfl ?_
      exact single_nil
    refine Run.or rfl rfl rfl (.at rfl) (.at rfl) rfl ?_
    refine Run.nil ?_
    refine WP.cond_f (.at rfl) (by simp) ?_
    refine WP.skip ?_
    refine WP.seq (WP.region (l := [0]) rfl ?_)
    refine Run.assign rfl rfl rfl (.at rfl) ?_
    refine Run.nil ?_
    refine WP.seq (WP.region (l := [0, 1, 2, 3]) rfl ?_)
    refine Run.move rfl rfl rfl (.at rfl) ?_
    refine Run.move rfl rfl rfl (.at rfl) ?_
    refine Run.call rfl rfl rfl (.at rfl) (.cons (.at rfl) (.cons (.at rfl) .nil)) (c_markPointSS_nil 101) ?_
    refine Run.assign rfl rfl rfl (.at rfl) ?_
    refine Run.nil ?_
    refine WP.trim (fr' := [(0, _), (1, _), (6, _), (7, _), (9, _), (12, _)]) (H' := [_, _, _, _]) ?_ ⟨rfl, rfl, rfl, rfl, rfl, rfl, trivial⟩ rfl
    refine WP.seq (WP.region (l := [0]) rfl ?_)
    refine Run.assign rfl rfl rfl (.at rfl) ?_
    refine Run.nil ?_
    refine WP.seq (WP.region (l := [0, 1, 2, 3]) rfl ?_)
    refine Run.move rfl rfl rfl (.at rfl) ?_
    refine Run.move rfl rfl rfl (.at rfl) ?_
    refine Run.acts [] [] rfl rfl rfl (.at rfl) (.cons (.at rfl) (.cons (.at rfl) .nil)) (.cons .nil (.cons .refl .nil)) (hH.acts) rfl rfl rfl (fun x H h => ?_) (fun x H h => ?_)
    · obtain ⟨rfl, rfl⟩ := h; exact ⟨rfl, by first | rfl | simp [cleanH, cs3_cl]; done | simp [cleanH, ints_cl]; done | simp [cleanH, cs3_cl, ints_cl]; done | simp [cleanH, cs9_cl]; done | simp [cleanH, cs9_cl, cs3_cl, ints_cl]; done⟩
    obtain ⟨rfl, rfl⟩ := h
    refine Run.assign rfl rfl rfl (.at rfl) ?_
    refine Run.nil ?_
    refine WP.seq ?_
    refine WP.seq (WP.region (l := [0, 1]) rfl ?_)
    refine Run.move rfl rfl rfl (.at rfl) ?_
    refine Run.int rfl rfl rfl (.at rfl) (.at rfl) rfl ?_
    refine Run.nil ?_
    refine WP.cond_f (.at rfl) rfl ?_
    refine WP.skip ?_
    refine WP.seq ?_
    refine WP.seq (WP.region (l := [0, 1, 2]) rfl ?_)
    refine Run.move rfl rfl rfl (.at rfl) ?_
    refine Run.move rfl rfl rfl (.at rfl) ?_
    refine Run.int rfl rfl rfl (.at rfl) (.at rfl) rfl ?_
    refine Run.nil ?_
    refine WP.cond_f (.at rfl) rfl ?_
    refine WP.skip ?_
    refine WP.seq (WP.region (l := [0, 1, 2, 3, 4, 5, 6, 7, 8]) rfl ?_)
    refine Run.move rfl rfl rfl (.at rfl) ?_
    refine Run.move rfl rfl rfl (.at rfl) ?_
    refine Run.call rfl rfl rfl (.at rfl) (.cons (.at rfl) (.cons (.at rfl) .nil)) (c_toMapS_nil h0) ?_
    refine Run.acts [] [] rfl rfl rfl (.at rfl) (.cons (.at rfl) (.cons (.at rfl) .nil)) (.cons .refl (.cons (lnil h0) .nil)) (hI.acts) rfl rfl rfl (fun x H h => ?_) (fun x H h => ?_)
    · obtain ⟨rfl, rfl⟩ := h; exact ⟨rfl, by first | rfl | simp [cleanH, cs3_cl]; done | simp [cleanH, ints_cl]; done | simp [cleanH, cs3_cl, ints_cl]; done | simp [cleanH, cs9_cl]; done | simp [cleanH, cs9_cl, cs3_cl, ints_cl]; done⟩
    obtain ⟨rfl, rfl⟩ := h
    refine Run.move rfl rfl rfl (.at rfl) ?_
    refine Run.extract rfl rfl rfl (.at rfl) rfl ?_
    refine Run.extract rfl rfl rfl (.at rfl) rfl ?_
    refine Run.assign rfl rfl rfl (.at rfl) ?_
    refine Run.assign rfl rfl rfl (.at rfl) ?_
    refine Run.nil ?_
    refine WP.seq ?_
    refine WP.trim (fr' := [(6, _), (7, _), (9, _), (12, _), (14, _), (15, _)]) (H' := [_, _, _, _]) ?_ ⟨rfl, rfl, rfl, rfl, rfl, rfl, trivial⟩ rfl
    refine WP.seq (WP.region (l := [0, 1, 2, 3, 4, 5, 6, 7, 8]) rfl ?_)
    refine Run.move rfl rfl rfl (.at rfl) ?_
    refine Run.move rfl rfl rfl (.at rfl) ?_
    refine Run.acts [] [] rfl rfl rfl (.at rfl) (.cons (.at rfl) (.cons (.at rfl) .nil)) (.cons .nil (.cons .nil .nil)) (hE.acts) rfl rfl rfl (fun x H h => ?_) (fun x H h => ?_)
    · obtain ⟨rfl, rfl⟩ := h; exact ⟨rfl, by first | rfl | simp [cleanH, cs3_cl]; done | simp [cleanH, ints_cl]; done | simp [cleanH, cs3_cl, ints_cl]; done | simp [cleanH, cs9_cl]; done | simp [cleanH, cs9_cl, cs3_cl, ints_cl]; done⟩
    obtain ⟨rfl, rfl⟩ := h
    refine Run.not rfl rfl rfl (.at rfl) ?_
    refine Run.move rfl rfl rfl (.at rfl) ?_
    refine' Run.guarded rfl rfl rfl rfl rfl rfl (fun ht => ?_) ?_
    rotate_left
    · skip
      refine Run.move rfl rfl rfl (.at rfl) ?_
      exact single_nil
    refine' Run.guarded rfl rfl rfl rfl rfl rfl (fun ht => ?_) ?_
    rotate_left
    · skip
      refine Run.move rfl rfl rfl (.at rfl) ?_
      exact single_nil
    refine' Run.guarded rfl rfl rfl rfl rfl rfl (fun ht => ?_) ?_
    rotate_left
    · skip
      refine Run.int rfl rfl rfl (.opt rfl ht) (.opt rfl ht) rfl ?_
      exact single_nil
    refine Run.or rfl rfl rfl (.at rfl) (.at rfl) rfl ?_
    refine Run.nil ?_
    refine WP.cond_f (.at rfl) (by simp) ?_
    refine WP.skip ?_
    refine WP.seq (WP.region (l := [0]) rfl ?_)
    refine Run.assign rfl rfl rfl (.at rfl) ?_
    refine Run.nil ?_
    refine WP.seq (WP.region (l := [0, 1, 2, 3]) rfl ?_)
    refine Run.move rfl rfl rfl (.at rfl) ?_
    refine Run.move rfl rfl rfl (.at rfl) ?_
    refine Run.acts [] [] rfl rfl rfl (.at rfl) (.cons (.at rfl) (.cons (.at rfl) .nil)) (.cons .nil (.cons .refl .nil)) (hH.acts) rfl rfl rfl (fun x H h => ?_) (fun x H h => ?_)
    · obtain ⟨rfl, rfl⟩ := h; exact ⟨rfl, by first | rfl | simp [cleanH, cs3_cl]; done | simp [cleanH, ints_cl]; done | simp [cleanH, cs3_cl, ints_cl]; done | simp [cleanH, cs9_cl]; done | simp [cleanH, cs9_cl, cs3_cl, ints_cl]; done⟩
    obtain ⟨rfl, rfl⟩ := h
    refine Run.assign rfl rfl rfl (.at rfl) ?_
    refine Run.nil ?_
    refine WP.seq ?_
    refine WP.seq (WP.region (l := [0, 1]) rfl ?_)
    refine Run.move rfl rfl rfl (.at rfl) ?_
    refine Run.int rfl rfl rfl (.at rfl) (.at rfl) rfl ?_
    refine Run.nil ?_
    refine WP.cond_f (.at rfl) rfl ?_
    refine WP.skip ?_
    refine WP.seq ?_
    refine WP.seq (WP.region (l := [0, 1, 2]) rfl ?_)
    refine Run.move rfl rfl rfl (.at rfl) ?_
    refine Run.move rfl rfl rfl (.at rfl) ?_
    refine Run.int rfl rfl rfl (.at rfl) (.at rfl) rfl ?_
    refine Run.nil ?_
    refine WP.cond_f (.at rfl) rfl ?_
    refine WP.skip ?_
    refine WP.trim (fr' := []) (H' := [_, _, _, _]) ?_ trivial rfl
    refine WP.seq (WP.region (l := [0]) rfl ?_)
    refine Run.assign rfl rfl rfl (.at rfl) ?_
    refine Run.nil ?_
    refine WP.ret ?_
    exact Ends.pure (.tmp rfl .nil) rfl
  · skip
    refine Pure.body 4 (n := 101) (fn := Try.f5) (c := Try.f5.body.get!) fn_5 rfl nm_5 rfl rfl fun C => ?_
    refine WP.seq (WP.region (l := [0]) rfl ?_)
    refine Run.assign rfl rfl rfl (.at rfl) ?_
    refine Run.nil ?_
    refine WP.seq (WP.region (l := [0]) rfl ?_)
    refine Run.assign rfl rfl rfl (.at rfl) ?_
    refine Run.nil ?_
    refine WP.seq (WP.region (l := [0, 1, 2, 3]) rfl ?_)
    refine Run.move rfl rfl rfl (.at rfl) ?_
    refine Run.move rfl rfl rfl (.at rfl) ?_
    refine Run.call rfl rfl rfl (.at rfl) (.cons (.at rfl) (.cons (.at rfl) .nil)) (c_szMapS 1000000 (by decide) (by omega)) ?_
    refine Run.assign rfl rfl rfl (.at rfl) ?_
    refine Run.nil ?_
    refine WP.seq ?_
    refine WP.seq (WP.region (l := [0, 1]) rfl ?_)
    refine Run.move rfl rfl rfl (.at rfl) ?_
    refine Run.int rfl rfl rfl (.at rfl) (.at rfl) rfl ?_
    refine Run.nil ?_
    refine WP.cond_f (.at rfl) (by rw [if_neg (by omega)]; simp; omega) ?_
    refine WP.skip ?_
    refine WP.seq (WP.region (l := [0, 1, 2, 3, 4, 5, 6, 7, 8]) rfl ?_)
    refine Run.move rfl rfl rfl (.at rfl) ?_
    refine Run.move rfl rfl rfl (.at rfl) ?_
    refine Run.acts [] [0] rfl rfl rfl (.at rfl) (.cons (.at rfl) (.cons (.at rfl) .nil)) (LendL.refl _ _) (c_toMapS 0 l false hn hl rfl) rfl rfl rfl (fun x H h => ?_) (fun x H h => ?_)
    · obtain ⟨b24, rfl, rfl⟩ := h; exact ⟨rfl, by first | rfl | simp [cleanH, cs3_cl]; done | simp [cleanH, ints_cl]; done | simp [cleanH, cs3_cl, ints_cl]; done | simp [cleanH, cs9_cl]; done | simp [cleanH, cs9_cl, cs3_cl, ints_cl]; done⟩
    obtain ⟨b24, rfl, rfl⟩ := h
    refine Run.acts [] [] rfl rfl rfl (.at rfl) (.cons (.at rfl) (.cons (.at rfl) .nil)) (.cons .refl (.cons (lend rfl) .nil)) (hS.acts) rfl rfl rfl (fun x H h => ?_) (fun x H h => ?_)
    · obtain ⟨rfl, rfl⟩ := h; exact ⟨rfl, by first | rfl | simp [cleanH, cs3_cl]; done | simp [cleanH, ints_cl]; done | simp [cleanH, cs3_cl, ints_cl]; done | simp [cleanH, cs9_cl]; done | simp [cleanH, cs9_cl, cs3_cl, ints_cl]; done⟩
    obtain ⟨rfl, rfl⟩ := h
    refine Run.move rfl rfl rfl (.at rfl) ?_
    refine Run.extract rfl rfl rfl (.at rfl) rfl ?_
    refine Run.extract rfl rfl rfl (.at rfl) rfl ?_
    refine Run.assign rfl rfl rfl (.at rfl) ?_
    refine Run.assign rfl rfl rfl (.at rfl) ?_
    refine Run.nil ?_
    refine WP.seq (WP.region (l := [0, 1, 2]) rfl ?_)
    refine Run.move rfl rfl rfl (.at rfl) ?_
    refine Run.acts [] [1] rfl rfl rfl (.at rfl) (.cons (.at rfl) (.cons (.at rfl) .nil)) (LendL.refl _ _) (c_toMapS 1 l false hn hl rfl) rfl rfl rfl (fun x H h => ?_) (fun x H h => ?_)
    · obtain ⟨b29, rfl, rfl⟩ := h; exact ⟨rfl, by first | rfl | simp [cleanH, cs3_cl]; done | simp [cleanH, ints_cl]; done | simp [cleanH, cs3_cl, ints_cl]; done | simp [cleanH, cs9_cl]; done | simp [cleanH, cs9_cl, cs3_cl, ints_cl]; done⟩
    obtain ⟨b29, rfl, rfl⟩ := h
    refine Run.assign rfl rfl rfl (.at rfl) ?_
    refine Run.nil ?_
    refine WP.seq (WP.region (l := [0, 1, 2, 3, 4, 5, 6, 7]) rfl ?_)
    refine Run.move rfl rfl rfl (.at rfl) ?_
    refine Run.move rfl rfl rfl (.at rfl) ?_
    refine Run.acts [] [] rfl rfl rfl (.at rfl) (.cons (.at rfl) (.cons (.at rfl) .nil)) (.cons .refl (.cons (lend rfl) .nil)) (hI.acts) rfl rfl rfl (fun x H h => ?_) (fun x H h => ?_)
    · obtain ⟨rfl, rfl⟩ := h; exact ⟨rfl, by first | rfl | simp [cleanH, cs3_cl]; done | simp [cleanH, ints_cl]; done | simp [cleanH, cs3_cl, ints_cl]; done | simp [cleanH, cs9_cl]; done | simp [cleanH, cs9_cl, cs3_cl, ints_cl]; done⟩
    obtain ⟨rfl, rfl⟩ := h
    refine Run.move rfl rfl rfl (.at rfl) ?_
    refine Run.extract rfl rfl rfl (.at rfl) rfl ?_
    refine Run.extract rfl rfl rfl (.at rfl) rfl ?_
    refine Run.assign rfl rfl rfl (.at rfl) ?_
    refine Run.assign rfl rfl rfl (.at rfl) ?_
    refine Run.nil ?_
    refine WP.seq ?_
    refine WP.trim (fr' := [(0, _), (1, _), (6, _), (7, _), (8, _), (9, _), (10, _)]) (H' := [_, _, _, _]) ?_ ⟨rfl, rfl, rfl, rfl, rfl, rfl, rfl, trivial⟩ rfl
    refine WP.seq (WP.region (l := [0, 1, 2, 3, 4, 5, 6, 7, 8]) rfl ?_)
    refine Run.move rfl rfl rfl (.at rfl) ?_
    refine Run.move rfl rfl rfl (.at rfl) ?_
    refine Run.acts [] [] rfl rfl rfl (.at rfl) (.cons (.at rfl) (.cons (.at rfl) .nil)) (.cons .nil (.cons .nil .nil)) (hE.acts) rfl rfl rfl (fun x H h => ?_) (fun x H h => ?_)
    · obtain ⟨rfl, rfl⟩ := h; exact ⟨rfl, by first | rfl | simp [cleanH, cs3_cl]; done | simp [cleanH, ints_cl]; done | simp [cleanH, cs3_cl, ints_cl]; done | simp [cleanH, cs9_cl]; done | simp [cleanH, cs9_cl, cs3_cl, ints_cl]; done⟩
    obtain ⟨rfl, rfl⟩ := h
    refine Run.not rfl rfl rfl (.at rfl) ?_
    refine Run.move rfl rfl rfl (.at rfl) ?_
    refine' Run.guarded rfl rfl rfl rfl rfl rfl (fun ht => ?_) ?_
    rotate_left
    · skip
      refine Run.move rfl rfl rfl (.at rfl) ?_
      exact single_nil
    refine' Run.guarded rfl rfl rfl rfl rfl rfl (fun ht => ?_) ?_
    rotate_left
    · skip
      refine Run.move rfl rfl rfl (.at rfl) ?_
      exact single_nil
    refine' Run.guarded rfl rfl rfl rfl rfl rfl (fun ht => ?_) ?_
    rotate_left
    · skip
      refine Run.int rfl rfl rfl (.opt rfl ht) (.opt rfl ht) rfl ?_
      exact single_nil
    refine Run.or rfl rfl rfl (.at rfl) (.at rfl) rfl ?_
    refine Run.nil ?_
    refine WP.cond_f (.at rfl) (by simp) ?_
    refine WP.skip ?_
    refine WP.seq ?_
    refine WP.seq (WP.region (l := [0, 1, 2, 3, 4]) rfl ?_)
    refine Run.move rfl rfl rfl (.at rfl) ?_
    refine Run.move rfl rfl rfl (.at rfl) ?_
    refine Run.acts [] [2] rfl rfl rfl (.at rfl) (.cons (.at rfl) (.cons (.at rfl) .nil)) (LendL.refl _ _) (c_toMapS 2 l false hn hl rfl) rfl rfl rfl (fun x H h => ?_) (fun x H h => ?_)
    · obtain ⟨b47, rfl, rfl⟩ := h; exact ⟨rfl, by first | rfl | simp [cleanH, cs3_cl]; done | simp [cleanH, ints_cl]; done | simp [cleanH, cs3_cl, ints_cl]; done | simp [cleanH, cs9_cl]; done | simp [cleanH, cs9_cl, cs3_cl, ints_cl]; done⟩
    obtain ⟨b47, rfl, rfl⟩ := h
    refine Run.acts [1, 2] [1, 2] rfl rfl rfl (.at rfl) (.cons (.at rfl) (.cons (.at rfl) .nil)) (LendL.refl _ _) (c_intactMapS 1 2 b29 b47 n (n + room n) (n + room n) false false (padM l) (padM l) hn hpl hpl (Nat.le_refl _) (Nat.le_refl _)) rfl rfl rfl (fun x H h => ?_) (fun x H h => ?_)
    · obtain ⟨rfl, rfl⟩ := h; exact ⟨rfl, by first | rfl | simp [cleanH, cs3_cl]; done | simp [cleanH, ints_cl]; done | simp [cleanH, cs3_cl, ints_cl]; done | simp [cleanH, cs9_cl]; done | simp [cleanH, cs9_cl, cs3_cl, ints_cl]; done⟩
    obtain ⟨rfl, rfl⟩ := h
    refine Run.not rfl rfl rfl (.at rfl) ?_
    refine Run.nil ?_
    refine WP.cond_f (.at rfl) (by simp) ?_
    refine WP.skip ?_
    refine WP.seq (WP.region (l := [0]) rfl ?_)
    refine Run.assign rfl rfl rfl (.at rfl) ?_
    refine Run.nil ?_
    refine WP.seq (WP.region (l := [0, 1, 2, 3]) rfl ?_)
    refine Run.move rfl rfl rfl (.at rfl) ?_
    refine Run.move rfl rfl rfl (.at rfl) ?_
    refine Run.acts [] [] rfl rfl rfl (.at rfl) (.cons (.at rfl) (.cons (.at rfl) .nil)) (.cons (lend rfl) (.cons .refl .nil)) ((c_markMapS l 101 (n := n) (by omega)).acts) rfl rfl rfl (fun x H h => ?_) (fun x H h => ?_)
    · obtain ⟨rfl, rfl⟩ := h; exact ⟨rfl, by first | rfl | simp [cleanH, cs3_cl]; done | simp [cleanH, ints_cl]; done | simp [cleanH, cs3_cl, ints_cl]; done | simp [cleanH, cs9_cl]; done | simp [cleanH, cs9_cl, cs3_cl, ints_cl]; done⟩
    obtain ⟨rfl, rfl⟩ := h
    refine Run.assign rfl rfl rfl (.at rfl) ?_
    refine Run.nil ?_
    refine WP.seq ?_
    refine WP.trim (fr' := [(0, _), (1, _), (6, _), (7, _), (9, _), (10, _), (11, _)]) (H' := [_, _, _, _]) ?_ ⟨rfl, rfl, rfl, rfl, rfl, rfl, rfl, trivial⟩ rfl
    refine WP.seq (WP.region (l := [0, 1, 2, 3, 4, 5, 6, 7, 8, 9, 10, 11, 12]) rfl ?_)
    refine Run.move rfl rfl rfl (.at rfl) ?_
    refine Run.int rfl rfl rfl (.at rfl) (.at rfl) rfl ?_
    refine Run.move rfl rfl rfl (.at rfl) ?_
    refine' Run.guarded rfl rfl rfl rfl rfl rfl (fun ht => ?_) ?_
    rotate_left
    · skip
      refine Run.move rfl rfl rfl (.at rfl) ?_
      exact single_nil
    refine' Run.guarded rfl rfl rfl rfl rfl rfl (fun ht => ?_) ?_
    rotate_left
    · skip
      refine Run.move rfl rfl rfl (.at rfl) ?_
      exact single_nil
    refine' Run.guarded rfl rfl rfl rfl rfl rfl (fun ht => ?_) ?_
    rotate_left
    · skip
      refine Run.acts [] [] rfl rfl rfl (.at rfl) (.cons (.opt rfl ht) (.cons (.opt rfl ht) .nil)) (.cons .nil (.cons .nil .nil)) (hE.acts) rfl rfl rfl (fun x H h => ?_) (fun x H h => ?_)
      · obtain ⟨rfl, rfl⟩ := h; exact ⟨rfl, by first | rfl | simp [cleanH, cs3_cl]; done | simp [cleanH, ints_cl]; done | simp [cleanH, cs3_cl, ints_cl]; done | simp [cleanH, cs9_cl]; done | simp [cleanH, cs9_cl, cs3_cl, ints_cl]; done⟩
      obtain ⟨rfl, rfl⟩ := h
      exact single_nil
    refine' Run.guarded rfl rfl rfl rfl rfl rfl (fun ht => ?_) ?_
    rotate_left
    · skip
      refine Run.not rfl rfl rfl (.opt rfl ht) ?_
      exact single_nil
    refine Run.or rfl rfl rfl (.at rfl) (.at rfl) rfl ?_
    refine Run.move rfl rfl rfl (.at rfl) ?_
    refine' Run.guarded rfl rfl rfl rfl rfl rfl (fun ht => ?_) ?_
    rotate_left
    · skip
      refine Run.move rfl rfl rfl (.at rfl) ?_
      exact single_nil
    refine' Run.guarded rfl rfl rfl rfl rfl rfl (fun ht => ?_) ?_
    rotate_left
    · skip
      refine Run.move rfl rfl rfl (.at rfl) ?_
      exact single_nil
    refine' Run.guarded rfl rfl rfl rfl rfl rfl (fun ht => ?_) ?_
    rotate_left
    · skip
      refine Run.int rfl rfl rfl (.opt rfl ht) (.opt rfl ht) rfl ?_
      exact single_nil
    refine Run.or rfl rfl rfl (.at rfl) (.at rfl) rfl ?_
    refine Run.nil ?_
    refine WP.cond_f (.at rfl) (by simp) ?_
    refine WP.skip ?_
    refine WP.seq (WP.region (l := [0]) rfl ?_)
    refine Run.assign rfl rfl rfl (.at rfl) ?_
    refine Run.nil ?_
    refine WP.seq (WP.region (l := [0, 1, 2, 3]) rfl ?_)
    refine Run.move rfl rfl rfl (.at rfl) ?_
    refine Run.move rfl rfl rfl (.at rfl) ?_
    refine Run.call rfl rfl rfl (.at rfl) (.cons (.at rfl) (.cons (.at rfl) .nil)) (c_markPointSS_nil 101) ?_
    refine Run.assign rfl rfl rfl (.at rfl) ?_
    refine Run.nil ?_
    refine WP.trim (fr' := [(0, _), (1, _), (6, _), (7, _), (9, _), (12, _)]) (H' := [_, _, _, _]) ?_ ⟨rfl, rfl, rfl, rfl, rfl, rfl, trivial⟩ rfl
    refine WP.seq (WP.region (l := [0]) rfl ?_)
    refine Run.assign rfl rfl rfl (.at rfl) ?_
    refine Run.nil ?_
    refine WP.seq (WP.region (l := [0, 1, 2, 3]) rfl ?_)
    refine Run.move rfl rfl rfl (.at rfl) ?_
    refine Run.move rfl rfl rfl (.at rfl) ?_
    refine Run.acts [] [] rfl rfl rfl (.at rfl) (.cons (.at rfl) (.cons (.at rfl) .nil)) (.cons .nil (.cons .refl .nil)) (hH.acts) rfl rfl rfl (fun x H h => ?_) (fun x H h => ?_)
    · obtain ⟨rfl, rfl⟩ := h; exact ⟨rfl, by first | rfl | simp [cleanH, cs3_cl]; done | simp [cleanH, ints_cl]; done | simp [cleanH, cs3_cl, ints_cl]; done | simp [cleanH, cs9_cl]; done | simp [cleanH, cs9_cl, cs3_cl, ints_cl]; done⟩
    obtain ⟨rfl, rfl⟩ := h
    refine Run.assign rfl rfl rfl (.at rfl) ?_
    refine Run.nil ?_
    refine WP.seq ?_
    refine WP.seq (WP.region (l := [0, 1]) rfl ?_)
    refine Run.move rfl rfl rfl (.at rfl) ?_
    refine Run.int rfl rfl rfl (.at rfl) (.at rfl) rfl ?_
    refine Run.nil ?_
    refine WP.cond_f (.at rfl) rfl ?_
    refine WP.skip ?_
    refine WP.seq ?_
    refine WP.seq (WP.region (l := [0, 1, 2]) rfl ?_)
    refine Run.move rfl rfl rfl (.at rfl) ?_
    refine Run.move rfl rfl rfl (.at rfl) ?_
    refine Run.int rfl rfl rfl (.at rfl) (.at rfl) rfl ?_
    refine Run.nil ?_
    refine WP.cond_f (.at rfl) rfl ?_
    refine WP.skip ?_
    refine WP.seq (WP.region (l := [0, 1, 2, 3, 4, 5, 6, 7, 8]) rfl ?_)
    refine Run.move rfl rfl rfl (.at rfl) ?_
    refine Run.move rfl rfl rfl (.at rfl) ?_
    refine Run.acts [] [3] rfl rfl rfl (.at rfl) (.cons (.at rfl) (.cons (.at rfl) .nil)) (LendL.refl _ _) (c_toMapS 3 l true hn hl (by simp [h0])) rfl rfl rfl (fun x H h => ?_) (fun x H h => ?_)
    · obtain ⟨b80, rfl, rfl⟩ := h; exact ⟨rfl, by first | rfl | simp [cleanH, cs3_cl]; done | simp [cleanH, ints_cl]; done | simp [cleanH, cs3_cl, ints_cl]; done | simp [cleanH, cs9_cl]; done | simp [cleanH, cs9_cl, cs3_cl, ints_cl]; done⟩
    obtain ⟨b80, rfl, rfl⟩ := h
    refine Run.acts [] [] rfl rfl rfl (.at rfl) (.cons (.at rfl) (.cons (.at rfl) .nil)) (.cons .refl (.cons (lend rfl) .nil)) (hI.acts) rfl rfl rfl (fun x H h => ?_) (fun x H h => ?_)
    · obtain ⟨rfl, rfl⟩ := h; exact ⟨rfl, by first | rfl | simp [cleanH, cs3_cl]; done | simp [cleanH, ints_cl]; done | simp [cleanH, cs3_cl, ints_cl]; done | simp [cleanH, cs9_cl]; done | simp [cleanH, cs9_cl, cs3_cl, ints_cl]; done⟩
    obtain ⟨rfl, rfl⟩ := h
    refine Run.move rfl rfl rfl (.at rfl) ?_
    refine Run.extract rfl rfl rfl (.at rfl) rfl ?_
    refine Run.extract rfl rfl rfl (.at rfl) rfl ?_
    refine Run.assign rfl rfl rfl (.at rfl) ?_
    refine Run.assign rfl rfl rfl (.at rfl) ?_
    refine Run.nil ?_
    refine WP.seq ?_
    refine WP.trim (fr' := [(6, _), (7, _), (9, _), (12, _), (14, _), (15, _)]) (H' := [_, _, _, _]) ?_ ⟨rfl, rfl, rfl, rfl, rfl, rfl, trivial⟩ rfl
    refine WP.seq (WP.region (l := [0, 1, 2, 3, 4, 5, 6, 7, 8]) rfl ?_)
    refine Run.move rfl rfl rfl (.at rfl) ?_
    refine Run.move rfl rfl rfl (.at rfl) ?_
    refine Run.acts [] [] rfl rfl rfl (.at rfl) (.cons (.at rfl) (.cons (.at rfl) .nil)) (.cons .nil (.cons .nil .nil)) (hE.acts) rfl rfl rfl (fun x H h => ?_) (fun x H h => ?_)
    · obtain ⟨rfl, rfl⟩ := h; exact ⟨rfl, by first | rfl | simp [cleanH, cs3_cl]; done | simp [cleanH, ints_cl]; done | simp [cleanH, cs3_cl, ints_cl]; done | simp [cleanH, cs9_cl]; done | simp [cleanH, cs9_cl, cs3_cl, ints_cl]; done⟩
    obtain ⟨rfl, rfl⟩ := h
    refine Run.not rfl rfl rfl (.at rfl) ?_
    refine Run.move rfl rfl rfl (.at rfl) ?_
    refine' Run.guarded rfl rfl rfl rfl rfl rfl (fun ht => ?_) ?_
    rotate_left
    · skip
      refine Run.move rfl rfl rfl (.at rfl) ?_
      exact single_nil
    refine' Run.guarded rfl rfl rfl rfl rfl rfl (fun ht => ?_) ?_
    rotate_left
    · skip
      refine Run.move rfl rfl rfl (.at rfl) ?_
      exact single_nil
    refine' Run.guarded rfl rfl rfl rfl rfl rfl (fun ht => ?_) ?_
    rotate_left
    · skip
      refine Run.int rfl rfl rfl (.opt rfl ht) (.opt rfl ht) rfl ?_
      exact single_nil
    refine Run.or rfl rfl rfl (.at rfl) (.at rfl) rfl ?_
    refine Run.nil ?_
    refine WP.cond_f (.at rfl) (by simp) ?_
    refine WP.skip ?_
    refine WP.seq (WP.region (l := [0]) rfl ?_)
    refine Run.assign rfl rfl rfl (.at rfl) ?_
    refine Run.nil ?_
    refine WP.seq (WP.region (l := [0, 1, 2, 3]) rfl ?_)
    refine Run.move rfl rfl rfl (.at rfl) ?_
    refine Run.move rfl rfl rfl (.at rfl) ?_
    refine Run.acts [] [] rfl rfl rfl (.at rfl) (.cons (.at rfl) (.cons (.at rfl) .nil)) (.cons .nil (.cons .refl .nil)) (hH.acts) rfl rfl rfl (fun x H h => ?_) (fun x H h => ?_)
    · obtain ⟨rfl, rfl⟩ := h; exact ⟨rfl, by first | rfl | simp [cleanH, cs3_cl]; done | simp [cleanH, ints_cl]; done | simp [cleanH, cs3_cl, ints_cl]; done | simp [cleanH, cs9_cl]; done | simp [cleanH, cs9_cl, cs3_cl, ints_cl]; done⟩
    obtain ⟨rfl, rfl⟩ := h
    refine Run.assign rfl rfl rfl (.at rfl) ?_
    refine Run.nil ?_
    refine WP.seq ?_
    refine WP.seq (WP.region (l := [0, 1]) rfl ?_)
    refine Run.move rfl rfl rfl (.at rfl) ?_
    refine Run.int rfl rfl rfl (.at rfl) (.at rfl) rfl ?_
    refine Run.nil ?_
    refine WP.cond_f (.at rfl) rfl ?_
    refine WP.skip ?_
    refine WP.seq ?_
    refine WP.seq (WP.region (l := [0, 1, 2]) rfl ?_)
    refine Run.move rfl rfl rfl (.at rfl) ?_
    refine Run.move rfl rfl rfl (.at rfl) ?_
    refine Run.int rfl rfl rfl (.at rfl) (.at rfl) rfl ?_
    refine Run.nil ?_
    refine WP.cond_f (.at rfl) rfl ?_
    refine WP.skip ?_
    refine WP.trim (fr' := []) (H' := [_, _, _, _]) ?_ trivial rfl
    refine WP.seq (WP.region (l := [0]) rfl ?_)
    refine Run.assign rfl rfl rfl (.at rfl) ?_
    refine Run.nil ?_
    refine WP.ret ?_
    exact Ends.pure (.tmp rfl .nil) rfl
theorem c_orbLaw2 (p : Int) (l : List M3) {n : Nat} (hl : l.length = n) (hn : n ≤ 1000000) (h : codeL p l [] = 0) : Pure Try.prog 5 [.int .i64 p, .imm (cs9 l) n] (.bool true) := by
  have hrm := room_le n
  have hpl := padM_length l hl
  have lend : ∀ {H : List Ar} {id b : Nat}, H[id]? = some [(b, cs9 (padM l))] → Lend H (.own id b 9 0 n (n + room n) false) (.imm (cs9 l) n) := fun h => Lend.one h (by omega) (padM_take l)
  have lnil : ∀ {H : List Ar}, n = 0 → Lend H .nilsl (.imm (cs9 l) n) := fun h => by subst h; exact .nil
  have hS := c_specOrbits p l (n := n) (by omega) hl
  unfold orbR at hS
  rw [if_pos h] at hS
  obtain ⟨hp, hok, _, h8⟩ := codeL_ok h
  have hcnt := pts_cnt hp
  have hol := orbsM_le (p := p) (ms := l)
  have hos := orbsM_len (ms := l) hp
  have hfl : ∀ {f : List (Nat × List V3)}, f.map Prod.snd = orbsM p l → f.length ≤ 1000 := fun {f} hf => by
    have := congrArg List.length hf
    rw [List.length_map] at this
    omega
  have hfs : ∀ {f : List (Nat × List V3)}, f.map Prod.snd = orbsM p l → ∀ e ∈ f, e.2.length ≤ 200 := fun {f} hf e he => hos _ (hf ▸ List.mem_map.2 ⟨e, he, rfl⟩)
  have hms : ∀ {f : List (Nat × List V3)}, f.map Prod.snd = orbsM p l → ∀ x ∈ (marksB 101 f).map Prod.snd, x.length ≤ 200 := by
    intro f hf x hx
    obtain ⟨e, he, rfl⟩ := List.mem_map.1 hx
    have key : ∀ (f : List (Nat × List V3)) (q : Int), (∀ e ∈ f, e.2.length ≤ 200) → ∀ e ∈ marksB q f, e.2.length ≤ 200 := by
      intro f
      induction f with
      | nil => intro q _ e he; cases he
      | cons y r ih =>
        intro q hy e he
        simp only [marksB] at he
        rcases List.mem_cons.1 he with rfl | he
        · simp only [markTo_length]
          exact hy y (by simp)
        · exact ih _ (fun z hz => hy z (by simp [hz])) e he
    exact key f 101 (hfs hf) e he
  have hE : ∀ {f : List (Nat × List V3)}, f.map Prod.snd = orbsM p l → Pure Try.prog 16 [.imm (nest (f.map Prod.snd)) f.length, .imm (nest (orbsM p l)) (orbsM p l).length] (.bool true) := by
    intro f hf
    have := c_eqPointSS (f.map Prod.snd) (orbsM p l) (n := f.length) (m := (orbsM p l).length) (by have := hfl hf; omega) (List.length_map _) rfl (fun x hx => by
      obtain ⟨e, he, rfl⟩ := List.mem_map.1 hx
      have := hfs hf e he
      omega)
    rwa [decide_eq_true hf] at this
  have hH : ∀ {f : List (Nat × List V3)}, f.map Prod.snd = orbsM p l → Pure Try.prog 19 [.imm (nest ((marksB 101 f).map Prod.snd)) f.length, .int .i64 101] (.int .i64 (endF 101 (f.map Prod.snd))) := by
    intro f hf
    have := c_heldPointSS ((marksB 101 f).map Prod.snd) 101 (n := f.length) (by decide) (hfl hf) (by rw [List.length_map, marksB_length]) (hms hf) (by rw [marksB_snd]; exact heldF_marks _ _)
    have e : endF 101 ((marksB 101 f).map Prod.snd) = endF 101 (f.map Prod.snd) := by rw [marksB_snd, endF_marks]
    rw [e] at this
    exact this
  have hpos : ∀ {f : List (Nat × List V3)}, f.map Prod.snd = orbsM p l → 101 ≤ endF 101 (f.map Prod.snd) := by
    intro f hf
    rw [hf]
    exact (endF_rng 101 (orbsM p l) hos).1
  by_cases h0 : n = 0
  · skip
    refine Pure.body 8 (n := 101) (fn := Try.f5) (c := Try.f5.body.get!) fn_5 rfl nm_5 rfl rfl fun C => ?_
    refine WP.seq (WP.region (l := [0]) rfl ?_)
    refine Run.assign rfl rfl rfl (.at rfl) ?_
    refine Run.nil ?_
    refine WP.seq (WP.region (l := [0]) rfl ?_)
    refine Run.assign rfl rfl rfl (.at rfl) ?_
    refine Run.nil ?_
    refine WP.seq (WP.region (l := [0, 1, 2, 3]) rfl ?_)
    refine Run.move rfl rfl rfl (.at rfl) ?_
    refine Run.move rfl rfl rfl (.at rfl) ?_
    refine Run.call rfl rfl rfl (.at rfl) (.cons (.at rfl) (.cons (.at rfl) .nil)) (c_szMapS 1000000 (by decide) (by omega)) ?_
    refine Run.assign rfl rfl rfl (.at rfl) ?_
    refine Run.nil ?_
    refine WP.seq ?_
    refine WP.seq (WP.region (l := [0, 1]) rfl ?_)
    refine Run.move rfl rfl rfl (.at rfl) ?_
    refine Run.int rfl rfl rfl (.at rfl) (.at rfl) rfl ?_
    refine Run.nil ?_
    refine WP.cond_f (.at rfl) (by rw [if_neg (by omega)]; simp; omega) ?_
    refine WP.skip ?_
    refine WP.seq (WP.region (l := [0, 1, 2, 3, 4, 5, 6, 7, 8]) rfl ?_)
    refine Run.move rfl rfl rfl (.at rfl) ?_
    refine Run.move rfl rfl rfl (.at rfl) ?_
    refine Run.acts [] [0] rfl rfl rfl (.at rfl) (.cons (.at rfl) (.cons (.at rfl) .nil)) (LendL.refl _ _) (c_toMapS 0 l false hn hl rfl) rfl rfl rfl (fun x H h => ?_) (fun x H h => ?_)
    · obtain ⟨b24, rfl, rfl⟩ := h; exact ⟨rfl, by first | rfl | simp [cleanH, cs3_cl]; done | simp [cleanH, ints_cl]; done | simp [cleanH, cs3_cl, ints_cl]; done | simp [cleanH, cs9_cl]; done | simp [cleanH, cs9_cl, cs3_cl, ints_cl]; done⟩
    obtain ⟨b24, rfl, rfl⟩ := h
    refine Run.freeze 24 (cs9 l) rfl rfl (by omega) (padM_take l) ?_
    refine Run.call rfl rfl rfl (.at rfl) (.cons (.at rfl) (.cons (.at rfl) .nil)) (hS) ?_
    refine Run.move rfl rfl rfl (.at rfl) ?_
    refine Run.extract rfl rfl rfl (.at rfl) rfl ?_
    refine Run.extract rfl rfl rfl (.at rfl) rfl ?_
    refine Run.assign rfl rfl rfl (.at rfl) ?_
    refine Run.assign rfl rfl rfl (.at rfl) ?_
    refine Run.nil ?_
    refine WP.seq (WP.region (l := [0, 1, 2]) rfl ?_)
    refine Run.move rfl rfl rfl (.at rfl) ?_
    refine Run.acts [] [1] rfl rfl rfl (.at rfl) (.cons (.at rfl) (.cons (.at rfl) .nil)) (LendL.refl _ _) (c_toMapS 1 l false hn hl rfl) rfl rfl rfl (fun x H h => ?_) (fun x H h => ?_)
    · obtain ⟨b29, rfl, rfl⟩ := h; exact ⟨rfl, by first | rfl | simp [cleanH, cs3_cl]; done | simp [cleanH, ints_cl]; done | simp [cleanH, cs3_cl, ints_cl]; done | simp [cleanH, cs9_cl]; done | simp [cleanH, cs9_cl, cs3_cl, ints_cl]; done⟩
    obtain ⟨b29, rfl, rfl⟩ := h
    refine Run.assign rfl rfl rfl (.at rfl) ?_
    refine Run.nil ?_
    refine WP.seq (WP.region (l := [0, 1, 2, 3, 4, 5, 6, 7]) rfl ?_)
    refine Run.move rfl rfl rfl (.at rfl) ?_
    refine Run.move rfl rfl rfl (.at rfl) ?_
    refine Run.acts [] [2, 3] rfl rfl rfl (.at rfl) (.cons (.at rfl) (.cons (.at rfl) .nil)) (.cons .refl (.cons (lend rfl) .nil)) (c_implOrbitsA 2 p l (n := n) (by omega) hl h) rfl rfl rfl (fun x H h => ?_) (fun x H h => ?_)
    · obtain ⟨b33, f33, rfl, hf33, rfl⟩ := h; exact ⟨rfl, famClean b33 f33⟩
    obtain ⟨b33, f33, rfl, hf33, rfl⟩ := h
    refine Run.move rfl rfl rfl (.at rfl) ?_
    refine Run.extract rfl rfl rfl (.at rfl) rfl ?_
    refine Run.extract rfl rfl rfl (.at rfl) rfl ?_
    refine Run.assign rfl rfl rfl (.at rfl) ?_
    refine Run.assign rfl rfl rfl (.at rfl) ?_
    refine Run.nil ?_
    refine WP.seq ?_
    refine WP.trim (fr' := [(0, _), (1, _), (6, _), (7, _), (8, _), (9, _), (10, _)]) (H' := [_, _, _, _, _, _, _, _]) ?_ ⟨rfl, rfl, rfl, rfl, rfl, rfl, rfl, trivial⟩ rfl
    refine WP.seq (WP.region (l := [0, 1, 2, 3, 4, 5, 6, 7, 8]) rfl ?_)
    refine Run.move rfl rfl rfl (.at rfl) ?_
    refine Run.move rfl rfl rfl (.at rfl) ?_
    refine Run.acts [] [] rfl rfl rfl (.at rfl) (.cons (.at rfl) (.cons (.at rfl) .nil)) (.cons (lend_nest (i := 2) (j := 3) rfl rfl rfl rfl) (.cons .refl .nil)) ((hE hf33).acts) rfl rfl rfl (fun x H h => ?_) (fun x H h => ?_)
    · obtain ⟨rfl, rfl⟩ := h; exact ⟨rfl, by first | rfl | simp [cleanH, cs3_cl]; done | simp [cleanH, ints_cl]; done | simp [cleanH, cs3_cl, ints_cl]; done | simp [cleanH, cs9_cl]; done | simp [cleanH, cs9_cl, cs3_cl, ints_cl]; done⟩
    obtain ⟨rfl, rfl⟩ := h
    refine Run.not rfl rfl rfl (.at rfl) ?_
    refine Run.move rfl rfl rfl (.at rfl) ?_
    refine' Run.guarded rfl rfl rfl rfl rfl rfl (fun ht => ?_) ?_
    rotate_left
    · skip
      refine Run.move rfl rfl rfl (.at rfl) ?_
      exact single_nil
    refine' Run.guarded rfl rfl rfl rfl rfl rfl (fun ht => ?_) ?_
    rotate_left
    · skip
      refine Run.move rfl rfl rfl (.at rfl) ?_
      exact single_nil
    refine' Run.guarded rfl rfl rfl rfl rfl rfl (fun ht => ?_) ?_
    rotate_left
    · skip
      refine Run.int rfl rfl rfl (.opt rfl ht) (.opt rfl ht) rfl ?_
      exact single_nil
    refine Run.or rfl rfl rfl (.at rfl) (.at rfl) rfl ?_
    refine Run.nil ?_
    refine WP.cond_f (.at rfl) (by simp) ?_
    refine WP.skip ?_
    refine WP.seq ?_
    refine WP.seq (WP.region (l := [0, 1, 2, 3, 4]) rfl ?_)
    refine Run.move rfl rfl rfl (.at rfl) ?_
    refine Run.move rfl rfl rfl (.at rfl) ?_
    refine Run.acts [] [4] rfl rfl rfl (.at rfl) (.cons (.at rfl) (.cons (.at rfl) .nil)) (LendL.refl _ _) (c_toMapS 4 l false hn hl rfl) rfl rfl rfl (fun x H h => ?_) (fun x H h => ?_)
    · obtain ⟨b47, rfl, rfl⟩ := h; exact ⟨rfl, by first | rfl | simp [cleanH, cs3_cl]; done | simp [cleanH, ints_cl]; done | simp [cleanH, cs3_cl, ints_cl]; done | simp [cleanH, cs9_cl]; done | simp [cleanH, cs9_cl, cs3_cl, ints_cl]; done⟩
    obtain ⟨b47, rfl, rfl⟩ := h
    refine Run.acts [1, 4] [1, 4] rfl rfl rfl (.at rfl) (.cons (.at rfl) (.cons (.at rfl) .nil)) (LendL.refl _ _) (c_intactMapS 1 4 b29 b47 n (n + room n) (n + room n) false false (padM l) (padM l) hn hpl hpl (Nat.le_refl _) (Nat.le_refl _)) rfl rfl rfl (fun x H h => ?_) (fun x H h => ?_)
    · obtain ⟨rfl, rfl⟩ := h; exact ⟨rfl, by first | rfl | simp [cleanH, cs3_cl]; done | simp [cleanH, ints_cl]; done | simp [cleanH, cs3_cl, ints_cl]; done | simp [cleanH, cs9_cl]; done | simp [cleanH, cs9_cl, cs3_cl, ints_cl]; done⟩
    obtain ⟨rfl, rfl⟩ := h
    refine Run.not rfl rfl rfl (.at rfl) ?_
    refine Run.nil ?_
    refine WP.cond_f (.at rfl) (by simp) ?_
    refine WP.skip ?_
    refine WP.seq (WP.region (l := [0]) rfl ?_)
    refine Run.assign rfl rfl rfl (.at rfl) ?_
    refine Run.nil ?_
    refine WP.seq (WP.region (l := [0, 1, 2, 3]) rfl ?_)
    refine Run.move rfl rfl rfl (.at rfl) ?_
    refine Run.move rfl rfl rfl (.at rfl) ?_
    refine Run.acts [] [] rfl rfl rfl (.at rfl) (.cons (.at rfl) (.cons (.at rfl) .nil)) (.cons (lend rfl) (.cons .refl .nil)) ((c_markMapS l 101 (n := n) (by omega)).acts) rfl rfl rfl (fun x H h => ?_) (fun x H h => ?_)
    · obtain ⟨rfl, rfl⟩ := h; exact ⟨rfl, by first | rfl | simp [cleanH, cs3_cl]; done | simp [cleanH, ints_cl]; done | simp [cleanH, cs3_cl, ints_cl]; done | simp [cleanH, cs9_cl]; done | simp [cleanH, cs9_cl, cs3_cl, ints_cl]; done⟩
    obtain ⟨rfl, rfl⟩ := h
    refine Run.assign rfl rfl rfl (.at rfl) ?_
    refine Run.nil ?_
    refine WP.seq ?_
    refine WP.trim (fr' := [(0, _), (1, _), (6, _), (7, _), (9, _), (10, _), (11, _)]) (H' := [_, _, _, _, _, _, _, _]) ?_ ⟨rfl, rfl, rfl, rfl, rfl, rfl, rfl, trivial⟩ rfl
    refine WP.seq (WP.region (l := [0, 1, 2, 3, 4, 5, 6, 7, 8, 9, 10, 11, 12]) rfl ?_)
    refine Run.move rfl rfl rfl (.at rfl) ?_
    refine Run.int rfl rfl rfl (.at rfl) (.at rfl) rfl ?_
    refine Run.move rfl rfl rfl (.at rfl) ?_
    refine' Run.guarded rfl rfl rfl rfl rfl rfl (fun ht => ?_) ?_
    rotate_left
    · skip
      refine Run.move rfl rfl rfl (.at rfl) ?_
      exact single_nil
    refine' Run.guarded rfl rfl rfl rfl rfl rfl (fun ht => ?_) ?_
    rotate_left
    · skip
      refine Run.move rfl rfl rfl (.at rfl) ?_
      exact single_nil
    refine' Run.guarded rfl rfl rfl rfl rfl rfl (fun ht => ?_) ?_
    rotate_left
    · skip
      refine Run.acts [] [] rfl rfl rfl (.at rfl) (.cons (.opt rfl ht) (.cons (.opt rfl ht) .nil)) (.cons (lend_nest (i := 2) (j := 3) rfl rfl rfl rfl) (.cons .refl .nil)) ((hE hf33).acts) rfl rfl rfl (fun x H h => ?_) (fun x H h => ?_)
      · obtain ⟨rfl, rfl⟩ := h; exact ⟨rfl, by first | rfl | simp [cleanH, cs3_cl]; done | simp [cleanH, ints_cl]; done | simp [cleanH, cs3_cl, ints_cl]; done | simp [cleanH, cs9_cl]; done | simp [cleanH, cs9_cl, cs3_cl, ints_cl]; done⟩
      obtain ⟨rfl, rfl⟩ := h
      exact single_nil
    refine' Run.guarded rfl rfl rfl rfl rfl rfl (fun ht => ?_) ?_
    rotate_left
    · skip
      refine Run.not rfl rfl rfl (.opt rfl ht) ?_
      exact single_nil
    refine Run.or rfl rfl rfl (.at rfl) (.at rfl) rfl ?_
    refine Run.move rfl rfl rfl (.at rfl) ?_
    refine' Run.guarded rfl rfl rfl rfl rfl rfl (fun ht => ?_) ?_
    rotate_left
    · skip
      refine Run.move rfl rfl rfl (.at rfl) ?_
      exact single_nil
    refine' Run.guarded rfl rfl rfl rfl rfl rfl (fun ht => ?_) ?_
    rotate_left
    · skip
      refine Run.move rfl rfl rfl (.at rfl) ?_
      exact single_nil
    refine' Run.guarded rfl rfl rfl rfl rfl rfl (fun ht => ?_) ?_
    rotate_left
    · skip
      refine Run.int rfl rfl rfl (.opt rfl ht) (.opt rfl ht) rfl ?_
      exact single_nil
    refine Run.or rfl rfl rfl (.at rfl) (.at rfl) rfl ?_
    refine Run.nil ?_
    refine WP.cond_f (.at rfl) (by simp) ?_
    refine WP.skip ?_
    refine WP.seq (WP.region (l := [0]) rfl ?_)
    refine Run.assign rfl rfl rfl (.at rfl) ?_
    refine Run.nil ?_
    refine WP.seq (WP.region (l := [0, 1, 2, 3]) rfl ?_)
    refine Run.move rfl rfl rfl (.at rfl) ?_
    refine Run.move rfl rfl rfl (.at rfl) ?_
    refine Run.acts [2, 3] [2, 3] rfl rfl rfl (.at rfl) (.cons (.at rfl) (.cons (.at rfl) .nil)) (LendL.refl _ _) (c_markPointSS 2 b33 f33.length 101 f33 (by decide) (hfl hf33) rfl (hfs hf33)) rfl rfl rfl (fun x H h => ?_) (fun x H h => ?_)
    · obtain ⟨rfl, rfl⟩ := h; exact ⟨rfl, famClean2 b33 f33 (marksB 101 f33)⟩
    obtain ⟨rfl, rfl⟩ := h
    refine Run.assign rfl rfl rfl (.at rfl) ?_
    refine Run.nil ?_
    refine WP.trim (fr' := [(0, _), (1, _), (6, _), (7, _), (9, _), (12, _)]) (H' := [_, _, _, _, _, _, _, _]) ?_ ⟨rfl, rfl, rfl, rfl, rfl, rfl, trivial⟩ rfl
    refine WP.seq (WP.region (l := [0]) rfl ?_)
    refine Run.assign rfl rfl rfl (.at rfl) ?_
    refine Run.nil ?_
    refine WP.seq (WP.region (l := [0, 1, 2, 3]) rfl ?_)
    refine Run.move rfl rfl rfl (.at rfl) ?_
    refine Run.move rfl rfl rfl (.at rfl) ?_
    refine Run.acts [] [] rfl rfl rfl (.at rfl) (.cons (.at rfl) (.cons (.at rfl) .nil)) (.cons (lend_nest (i := 2) (j := 3) rfl rfl (marksB_famA 0 101 f33).symm (marksB_length 101 f33)) (.cons .refl .nil)) ((hH hf33).acts) rfl rfl rfl (fun x H h => ?_) (fun x H h => ?_)
    · obtain ⟨rfl, rfl⟩ := h; exact ⟨rfl, by first | rfl | simp [cleanH, cs3_cl]; done | simp [cleanH, ints_cl]; done | simp [cleanH, cs3_cl, ints_cl]; done | simp [cleanH, cs9_cl]; done | simp [cleanH, cs9_cl, cs3_cl, ints_cl]; done⟩
    obtain ⟨rfl, rfl⟩ := h
    refine Run.assign rfl rfl rfl (.at rfl) ?_
    refine Run.nil ?_
    refine WP.seq ?_
    refine WP.seq (WP.region (l := [0, 1]) rfl ?_)
    refine Run.move rfl rfl rfl (.at rfl) ?_
    refine Run.int rfl rfl rfl (.at rfl) (.at rfl) rfl ?_
    refine Run.nil ?_
    refine WP.cond_f (.at rfl) (by have := hpos hf33; simp; omega) ?_
    refine WP.skip ?_
    refine WP.seq ?_
    refine WP.seq (WP.region (l := [0, 1, 2]) rfl ?_)
    refine Run.move rfl rfl rfl (.at rfl) ?_
    refine Run.move rfl rfl rfl (.at rfl) ?_
    refine Run.int rfl rfl rfl (.at rfl) (.at rfl) rfl ?_
    refine Run.nil ?_
    refine WP.cond_f (.at rfl) (by simp) ?_
    refine WP.skip ?_
    refine WP.seq (WP.region (l := [0, 1, 2, 3, 4, 5, 6, 7, 8]) rfl ?_)
    refine Run.move rfl rfl rfl (.at rfl) ?_
    refine Run.move rfl rfl rfl (.at rfl) ?_
    refine Run.call rfl rfl rfl (.at rfl) (.cons (.at rfl) (.cons (.at rfl) .nil)) (c_toMapS_nil h0) ?_
    refine Run.acts [] [6, 7] rfl rfl rfl (.at rfl) (.cons (.at rfl) (.cons (.at rfl) .nil)) (.cons .refl (.cons (lnil h0) .nil)) (c_implOrbitsA 6 p l (n := n) (by omega) hl h) rfl rfl rfl (fun x H h => ?_) (fun x H h => ?_)
    · obtain ⟨b81, f81, rfl, hf81, rfl⟩ := h; exact ⟨rfl, famClean b81 f81⟩
    obtain ⟨b81, f81, rfl, hf81, rfl⟩ := h
    refine Run.move rfl rfl rfl (.at rfl) ?_
    refine Run.extract rfl rfl rfl (.at rfl) rfl ?_
    refine Run.extract rfl rfl rfl (.at rfl) rfl ?_
    refine Run.assign rfl rfl rfl (.at rfl) ?_
    refine Run.assign rfl rfl rfl (.at rfl) ?_
    refine Run.nil ?_
    refine WP.seq ?_
    refine WP.trim (fr' := [(6, _), (7, _), (9, _), (12, _), (14, _), (15, _)]) (H' := [_, _, _, _, _, _, _, _]) ?_ ⟨rfl, rfl, rfl, rfl, rfl, rfl, trivial⟩ rfl
    refine WP.seq (WP.region (l := [0, 1, 2, 3, 4, 5, 6, 7, 8]) rfl ?_)
    refine Run.move rfl rfl rfl (.at rfl) ?_
    refine Run.move rfl rfl rfl (.at rfl) ?_
    refine Run.acts [] [] rfl rfl rfl (.at rfl) (.cons (.at rfl) (.cons (.at rfl) .nil)) (.cons (lend_nest (i := 6) (j := 7) rfl rfl rfl rfl) (.cons .refl .nil)) ((hE hf81).acts) rfl rfl rfl (fun x H h => ?_) (fun x H h => ?_)
    · obtain ⟨rfl, rfl⟩ := h; exact ⟨rfl, by first | rfl | simp [cleanH, cs3_cl]; done | simp [cleanH, ints_cl]; done | simp [cleanH, cs3_cl, ints_cl]; done | simp [cleanH, cs9_cl]; done | simp [cleanH, cs9_cl, cs3_cl, ints_cl]; done⟩
    obtain ⟨rfl, rfl⟩ := h
    refine Run.not rfl rfl rfl (.at rfl) ?_
    refine Run.move rfl rfl rfl (.at rfl) ?_
    refine' Run.guarded rfl rfl rfl rfl rfl rfl (fun ht => ?_) ?_
    rotate_left
    · skip
      refine Run.move rfl rfl rfl (.at rfl) ?_
      exact single_nil
    refine' Run.guarded rfl rfl rfl rfl rfl rfl (fun ht => ?_) ?_
    rotate_left
    · skip
      refine Run.move rfl rfl rfl (.at rfl) ?_
      exact single_nil
    refine' Run.guarded rfl rfl rfl rfl rfl rfl (fun ht => ?_) ?_
    rotate_left
    · skip
      refine Run.int rfl rfl rfl (.opt rfl ht) (.opt rfl ht) rfl ?_
      exact single_nil
    refine Run.or rfl rfl rfl (.at rfl) (.at rfl) rfl ?_
    refine Run.nil ?_
    refine WP.cond_f (.at rfl) (by simp) ?_
    refine WP.skip ?_
    refine WP.seq (WP.region (l := [0]) rfl ?_)
    refine Run.assign rfl rfl rfl (.at rfl) ?_
    refine Run.nil ?_
    refine WP.seq (WP.region (l := [0, 1, 2, 3]) rfl ?_)
    refine Run.move rfl rfl rfl (.at rfl) ?_
    refine Run.move rfl rfl rfl (.at rfl) ?_
    refine Run.acts [] [] rfl rfl rfl (.at rfl) (.cons (.at rfl) (.cons (.at rfl) .nil)) (.cons (lend_nest (i := 2) (j := 3) rfl rfl (marksB_famA 0 101 f33).symm (marksB_length 101 f33)) (.cons .refl .nil)) ((hH hf33).acts) rfl rfl rfl (fun x H h => ?_) (fun x H h => ?_)
    · obtain ⟨rfl, rfl⟩ := h; exact ⟨rfl, by first | rfl | simp [cleanH, cs3_cl]; done | simp [cleanH, ints_cl]; done | simp [cleanH, cs3_cl, ints_cl]; done | simp [cleanH, cs9_cl]; done | simp [cleanH, cs9_cl, cs3_cl, ints_cl]; done⟩
    obtain ⟨rfl, rfl⟩ := h
    refine Run.assign rfl rfl rfl (.at rfl) ?_
    refine Run.nil ?_
    refine WP.seq ?_
    refine WP.seq (WP.region (l := [0, 1]) rfl ?_)
    refine Run.move rfl rfl rfl (.at rfl) ?_
    refine Run.int rfl rfl rfl (.at rfl) (.at rfl) rfl ?_
    refine Run.nil ?_
    refine WP.cond_f (.at rfl) (by have := hpos hf33; simp; omega) ?_
    refine WP.skip ?_
    refine WP.seq ?_
    refine WP.seq (WP.region (l := [0, 1, 2]) rfl ?_)
    refine Run.move rfl rfl rfl (.at rfl) ?_
    refine Run.move rfl rfl rfl (.at rfl) ?_
    refine Run.int rfl rfl rfl (.at rfl) (.at rfl) rfl ?_
    refine Run.nil ?_
    refine WP.cond_f (.at rfl) (by simp) ?_
    refine WP.skip ?_
    refine WP.trim (fr' := []) (H' := [_, _, _, _, _, _, _, _]) ?_ trivial rfl
    refine WP.seq (WP.region (l := [0]) rfl ?_)
    refine Run.assign rfl rfl rfl (.at rfl) ?_
    refine Run.nil ?_
    refine WP.ret ?_
    exact Ends.pure (.tmp rfl .nil) rfl
  · skip
    refine Pure.body 8 (n := 101) (fn := Try.f5) (c := Try.f5.body.get!) fn_5 rfl nm_5 rfl rfl fun C => ?_
    refine WP.seq (WP.region (l := [0]) rfl ?_)
    refine Run.assign rfl rfl rfl (.at rfl) ?_
    refine Run.nil ?_
    refine WP.seq (WP.region (l := [0]) rfl ?_)
    refine Run.assign rfl rfl rfl (.at rfl) ?_
    refine Run.nil ?_
    refine WP.seq (WP.region (l := [0, 1, 2, 3]) rfl ?_)
    refine Run.move rfl rfl rfl (.at rfl) ?_
    refine Run.move rfl rfl rfl (.at rfl) ?_
    refine Run.call rfl rfl rfl (.at rfl) (.cons (.at rfl) (.cons (.at rfl) .nil)) (c_szMapS 1000000 (by decide) (by omega)) ?_
    refine Run.assign rfl rfl rfl (.at rfl) ?_
    refine Run.nil ?_
    refine WP.seq ?_
    refine WP.seq (WP.region (l := [0, 1]) rfl ?_)
    refine Run.move rfl rfl rfl (.at rfl) ?_
    refine Run.int rfl rfl rfl (.at rfl) (.at rfl) rfl ?_
    refine Run.nil ?_
    refine WP.cond_f (.at rfl) (by rw [if_neg (by omega)]; simp; omega) ?_
    refine WP.skip ?_
    refine WP.seq (WP.region (l := [0, 1, 2, 3, 4, 5, 6, 7, 8]) rfl ?_)
    refine Run.move rfl rfl rfl (.at rfl) ?_
    refine Run.move rfl rfl rfl (.at rfl) ?_
    refine Run.acts [] [0] rfl rfl rfl (.at rfl) (.cons (.at rfl) (.cons (.at rfl) .nil)) (LendL.refl _ _) (c_toMapS 0 l false hn hl rfl) rfl rfl rfl (fun x H h => ?_) (fun x H h => ?_)
    · obtain ⟨b24, rfl, rfl⟩ := h; exact ⟨rfl, by first | rfl | simp [cleanH, cs3_cl]; done | simp [cleanH, ints_cl]; done | simp [cleanH, cs3_cl, ints_cl]; done | simp [cleanH, cs9_cl]; done | simp [cleanH, cs9_cl, cs3_cl, ints_cl]; done⟩
    obtain ⟨b24, rfl, rfl⟩ := h
    refine Run.freeze 24 (cs9 l) rfl rfl (by omega) (padM_take l) ?_
    refine Run.call rfl rfl rfl (.at rfl) (.cons (.at rfl) (.cons (.at rfl) .nil)) (hS) ?_
    refine Run.move rfl rfl rfl (.at rfl) ?_
    refine Run.extract rfl rfl rfl (.at rfl) rfl ?_
    refine Run.extract rfl rfl rfl (.at rfl) rfl ?_
    refine Run.assign rfl rfl rfl (.at rfl) ?_
    refine Run.assign rfl rfl rfl (.at rfl) ?_
    refine Run.nil ?_
    refine WP.seq (WP.region (l := [0, 1, 2]) rfl ?_)
    refine Run.move rfl rfl rfl (.at rfl) ?_
    refine Run.acts [] [1] rfl rfl rfl (.at rfl) (.cons (.at rfl) (.cons (.at rfl) .nil)) (LendL.refl _ _) (c_toMapS 1 l false hn hl rfl) rfl rfl rfl (fun x H h => ?_) (fun x H h => ?_)
    · obtain ⟨b29, rfl, rfl⟩ := h; exact ⟨rfl, by first | rfl | simp [cleanH, cs3_cl]; done | simp [cleanH, ints_cl]; done | simp [cleanH, cs3_cl, ints_cl]; done | simp [cleanH, cs9_cl]; done | simp [cleanH, cs9_cl, cs3_cl, ints_cl]; done⟩
    obtain ⟨b29, rfl, rfl⟩ := h
    refine Run.assign rfl rfl rfl (.at rfl) ?_
    refine Run.nil ?_
    refine WP.seq (WP.region (l := [0, 1, 2, 3, 4, 5, 6, 7]) rfl ?_)
    refine Run.move rfl rfl rfl (.at rfl) ?_
    refine Run.move rfl rfl rfl (.at rfl) ?_
    refine Run.acts [] [2, 3] rfl rfl rfl (.at rfl) (.cons (.at rfl) (.cons (.at rfl) .nil)) (.cons .refl (.cons (lend rfl) .nil)) (c_implOrbitsA 2 p l (n := n) (by omega) hl h) rfl rfl rfl (fun x H h => ?_) (fun x H h => ?_)
    · obtain ⟨b33, f33, rfl, hf33, rfl⟩ := h; exact ⟨rfl, famClean b33 f33⟩
    obtain ⟨b33, f33, rfl, hf33, rfl⟩ := h
    refine Run.move rfl rfl rfl (.at rfl) ?_
    refine Run.extract rfl rfl rfl (.at rfl) rfl ?_
    refine Run.extract rfl rfl rfl (.at rfl) rfl ?_
    refine Run.assign rfl rfl rfl (.at rfl) ?_
    refine Run.assign rfl rfl rfl (.at rfl) ?_
    refine Run.nil ?_
    refine WP.seq ?_
    refine WP.trim (fr' := [(0, _), (1, _), (6, _), (7, _), (8, _), (9, _), (10, _)]) (H' := [_, _, _, _, _, _, _, _]) ?_ ⟨rfl, rfl, rfl, rfl, rfl, rfl, rfl, trivial⟩ rfl
    refine WP.seq (WP.region (l := [0, 1, 2, 3, 4, 5, 6, 7, 8]) rfl ?_)
    refine Run.move rfl rfl rfl (.at rfl) ?_
    refine Run.move rfl rfl rfl (.at rfl) ?_
    refine Run.acts [] [] rfl rfl rfl (.at rfl) (.cons (.at rfl) (.cons (.at rfl) .nil)) (.cons (lend_nest (i := 2) (j := 3) rfl rfl rfl rfl) (.cons .refl .nil)) ((hE hf33).acts) rfl rfl rfl (fun x H h => ?_) (fun x H h => ?_)
    · obtain ⟨rfl, rfl⟩ := h; exact ⟨rfl, by first | rfl | simp [cleanH, cs3_cl]; done | simp [cleanH, ints_cl]; done | simp [cleanH, cs3_cl, ints_cl]; done | simp [cleanH, cs9_cl]; done | simp [cleanH, cs9_cl, cs3_cl, ints_cl]; done⟩
    obtain ⟨rfl, rfl⟩ := h
    refine Run.not rfl rfl rfl (.at rfl) ?_
    refine Run.move rfl rfl rfl (.at rfl) ?_
    refine' Run.guarded rfl rfl rfl rfl rfl rfl (fun ht => ?_) ?_
    rotate_left
    · skip
      refine Run.move rfl rfl rfl (.at rfl) ?_
      exact single_nil
    refine' Run.guarded rfl rfl rfl rfl rfl rfl (fun ht => ?_) ?_
    rotate_left
    · skip
      refine Run.move rfl rfl rfl (.at rfl) ?_
      exact single_nil
    refine' Run.guarded rfl rfl rfl rfl rfl rfl (fun ht => ?_) ?_
    rotate_left
    · skip
      refine Run.int rfl rfl rfl (.opt rfl ht) (.opt rfl ht) rfl ?_
      exact single_nil
    refine Run.or rfl rfl rfl (.at rfl) (.at rfl) rfl ?_
    refine Run.nil ?_
    refine WP.cond_f (.at rfl) (by simp) ?_
    refine WP.skip ?_
    refine WP.seq ?_
    refine WP.seq (WP.region (l := [0, 1, 2, 3, 4]) rfl ?_)
    refine Run.move rfl rfl rfl (.at rfl) ?_
    refine Run.move rfl rfl rfl (.at rfl) ?_
    refine Run.acts [] [4] rfl rfl rfl (.at rfl) (.cons (.at rfl) (.cons (.at rfl) .nil)) (LendL.refl _ _) (c_toMapS 4 l false hn hl rfl) rfl rfl rfl (fun x H h => ?_) (fun x H h => ?_)
    · obtain ⟨b47, rfl, rfl⟩ := h; exact ⟨rfl, by first | rfl | simp [cleanH, cs3_cl]; done | simp [cleanH, ints_cl]; done | simp [cleanH, cs3_cl, ints_cl]; done | simp [cleanH, cs9_cl]; done | simp [cleanH, cs9_cl, cs3_cl, ints_cl]; done⟩
    obtain ⟨b47, rfl, rfl⟩ := h
    refine Run.acts [1, 4] [1, 4] rfl rfl rfl (.at rfl) (.cons (.at rfl) (.cons (.at rfl) .nil)) (LendL.refl _ _) (c_intactMapS 1 4 b29 b47 n (n + room n) (n + room n) false false (padM l) (padM l) hn hpl hpl (Nat.le_refl _) (Nat.le_refl _)) rfl rfl rfl (fun x H h => ?_) (fun x H h => ?_)
    · obtain ⟨rfl, rfl⟩ := h; exact ⟨rfl, by first | rfl | simp [cleanH, cs3_cl]; done | simp [cleanH, ints_cl]; done | simp [cleanH, cs3_cl, ints_cl]; done | simp [cleanH, cs9_cl]; done | simp [cleanH, cs9_cl, cs3_cl, ints_cl]; done⟩
    obtain ⟨rfl, rfl⟩ := h
    refine Run.not rfl rfl rfl (.at rfl) ?_
    refine Run.nil ?_
    refine WP.cond_f (.at rfl) (by simp) ?_
    refine WP.skip ?_
    refine WP.seq (WP.region (l := [0]) rfl ?_)
    refine Run.assign rfl rfl rfl (.at rfl) ?_
    refine Run.nil ?_
    refine WP.seq (WP.region (l := [0, 1, 2, 3]) rfl ?_)
    refine Run.move rfl rfl rfl (.at rfl) ?_
    refine Run.move rfl rfl rfl (.at rfl) ?_
    refine Run.acts [] [] rfl rfl rfl (.at rfl) (.cons (.at rfl) (.cons (.at rfl) .nil)) (.cons (lend rfl) (.cons .refl .nil)) ((c_markMapS l 101 (n := n) (by omega)).acts) rfl rfl rfl (fun x H h => ?_) (fun x H h => ?_)
    · obtain ⟨rfl, rfl⟩ := h; exact ⟨rfl, by first | rfl | simp [cleanH, cs3_cl]; done | simp [cleanH, ints_cl]; done | simp [cleanH, cs3_cl, ints_cl]; done | simp [cleanH, cs9_cl]; done | simp [cleanH, cs9_cl, cs3_cl, ints_cl]; done⟩
    obtain ⟨rfl, rfl⟩ := h
    refine Run.assign rfl rfl rfl (.at rfl) ?_
    refine Run.nil ?_
    refine WP.seq ?_
    refine WP.trim (fr' := [(0, _), (1, _), (6, _), (7, _), (9, _), (10, _), (11, _)]) (H' := [_, _, _, _, _, _, _, _]) ?_ ⟨rfl, rfl, rfl, rfl, rfl, rfl, rfl, trivial⟩ rfl
    refine WP.seq (WP.region (l := [0, 1, 2, 3, 4, 5, 6, 7, 8, 9, 10, 11, 12]) rfl ?_)
    refine Run.move rfl rfl rfl (.at rfl) ?_
    refine Run.int rfl rfl rfl (.at rfl) (.at rfl) rfl ?_
    refine Run.move rfl rfl rfl (.at rfl) ?_
    refine' Run.guarded rfl rfl rfl rfl rfl rfl (fun ht => ?_) ?_
    rotate_left
    · skip
      refine Run.move rfl rfl rfl (.at rfl) ?_
      exact single_nil
    refine' Run.guarded rfl rfl rfl rfl rfl rfl (fun ht => ?_) ?_
    rotate_left
    · skip
      refine Run.move rfl rfl rfl (.at rfl) ?_
      exact single_nil
    refine' Run.guarded rfl rfl rfl rfl rfl rfl (fun ht => ?_) ?_
    rotate_left
    · skip
      refine Run.acts [] [] rfl rfl rfl (.at rfl) (.cons (.opt rfl ht) (.cons (.opt rfl ht) .nil)) (.cons (lend_nest (i := 2) (j := 3) rfl rfl rfl rfl) (.cons .refl .nil)) ((hE hf33).acts) rfl rfl rfl (fun x H h => ?_) (fun x H h => ?_)
      · obtain ⟨rfl, rfl⟩ := h; exact ⟨rfl, by first | rfl | simp [cleanH, cs3_cl]; done | simp [cleanH, ints_cl]; done | simp [cleanH, cs3_cl, ints_cl]; done | simp [cleanH, cs9_cl]; done | simp [cleanH, cs9_cl, cs3_cl, ints_cl]; done⟩
      obtain ⟨rfl, rfl⟩ := h
      exact single_nil
    refine' Run.guarded rfl rfl rfl rfl rfl rfl (fun ht => ?_) ?_
    rotate_left
    · skip
      refine Run.not rfl rfl rfl (.opt rfl ht) ?_
      exact single_nil
    refine Run.or rfl rfl rfl (.at rfl) (.at rfl) rfl ?_
    refine Run.move rfl rfl rfl (.at rfl) ?_
    refine' Run.guarded rfl rfl rfl rfl rfl rfl (fun ht => ?_) ?_
    rotate_left
    · skip
      refine Run.move rfl rfl rfl (.at rfl) ?_
      exact single_nil
    refine' Run.guarded rfl rfl rfl rfl rfl rfl (fun ht => ?_) ?_
    rotate_left
    · skip
      refine Run.move rfl rfl rfl (.at rfl) ?_
      exact single_nil
    refine' Run.guarded rfl rfl rfl rfl rfl rfl (fun ht => ?_) ?_
    rotate_left
    · skip
      refine Run.int rfl rfl rfl (.opt rfl ht) (.opt rfl ht) rfl ?_
      exact single_nil
    refine Run.or rfl rfl rfl (.at rfl) (.at rfl) rfl ?_
    refine Run.nil ?_
    refine WP.cond_f (.at rfl) (by simp) ?_
    refine WP.skip ?_
    refine WP.seq (WP.region (l := [0]) rfl ?_)
    refine Run.assign rfl rfl rfl (.at rfl) ?_
    refine Run.nil ?_
    refine WP.seq (WP.region (l := [0, 1, 2, 3]) rfl ?_)
    refine Run.move rfl rfl rfl (.at rfl) ?_
    refine Run.move rfl rfl rfl (.at rfl) ?_
    refine Run.acts [2, 3] [2, 3] rfl rfl rfl (.at rfl) (.cons (.at rfl) (.cons (.at rfl) .nil)) (LendL.refl _ _) (c_markPointSS 2 b33 f33.length 101 f33 (by decide) (hfl hf33) rfl (hfs hf33)) rfl rfl rfl (fun x H h => ?_) (fun x H h => ?_)
    · obtain ⟨rfl, rfl⟩ := h; exact ⟨rfl, famClean2 b33 f33 (marksB 101 f33)⟩
    obtain ⟨rfl, rfl⟩ := h
    refine Run.assign rfl rfl rfl (.at rfl) ?_
    refine Run.nil ?_
    refine WP.trim (fr' := [(0, _), (1, _), (6, _), (7, _), (9, _), (12, _)]) (H' := [_, _, _, _, _, _, _, _]) ?_ ⟨rfl, rfl, rfl, rfl, rfl, rfl, trivial⟩ rfl
    refine WP.seq (WP.region (l := [0]) rfl ?_)
    refine Run.assign rfl rfl rfl (.at rfl) ?_
    refine Run.nil ?_
    refine WP.seq (WP.region (l := [0, 1, 2, 3]) rfl ?_)
    refine Run.move rfl rfl rfl (.at rfl) ?_
    refine Run.move rfl rfl rfl (.at rfl) ?_
    refine Run.acts [] [] rfl rfl rfl (.at rfl) (.cons (.at rfl) (.cons (.at rfl) .nil)) (.cons (lend_nest (i := 2) (j := 3) rfl rfl (marksB_famA 0 101 f33).symm (marksB_length 101 f33)) (.cons .refl .nil)) ((hH hf33).acts) rfl rfl rfl (fun x H h => ?_) (fun x H h => ?_)
    · obtain ⟨rfl, rfl⟩ := h; exact ⟨rfl, by first | rfl | simp [cleanH, cs3_cl]; done | simp [cleanH, ints_cl]; done | simp [cleanH, cs3_cl, ints_cl]; done | simp [cleanH, cs9_cl]; done | simp [cleanH, cs9_cl, cs3_cl, ints_cl]; done⟩
    obtain ⟨rfl, rfl⟩ := h
    refine Run.assign rfl rfl rfl (.at rfl) ?_
    refine Run.nil ?_
    refine WP.seq ?_
    refine WP.seq (WP.region (l := [0, 1]) rfl ?_)
    refine Run.move rfl rfl rfl (.at rfl) ?_
    refine Run.int rfl rfl rfl (.at rfl) (.at rfl) rfl ?_
    refine Run.nil ?_
    refine WP.cond_f (.at rfl) (by have := hpos hf33; simp; omega) ?_
    refine WP.skip ?_
    refine WP.seq ?_
    refine WP.seq (WP.region (l := [0, 1, 2]) rfl ?_)
    refine Run.move rfl rfl rfl (.at rfl) ?_
    refine Run.move rfl rfl rfl (.at rfl) ?_
    refine Run.int rfl rfl rfl (.at rfl) (.at rfl) rfl ?_
    refine Run.nil ?_
    refine WP.cond_f (.at rfl) (by simp) ?_
    refine WP.skip ?_
    refine WP.seq (WP.region (l := [0, 1, 2, 3, 4, 5, 6, 7, 8]) rfl ?_)
    refine Run.move rfl rfl rfl (.at rfl) ?_
    refine Run.move rfl rfl rfl (.at rfl) ?_
    refine Run.acts [] [5] rfl rfl rfl (.at rfl) (.cons (.at rfl) (.cons (.at rfl) .nil)) (LendL.refl _ _) (c_toMapS 5 l true hn hl (by simp [h0])) rfl rfl rfl (fun x H h => ?_) (fun x H h => ?_)
    · obtain ⟨b80, rfl, rfl⟩ := h; exact ⟨rfl, by first | rfl | simp [cleanH, cs3_cl]; done | simp [cleanH, ints_cl]; done | simp [cleanH, cs3_cl, ints_cl]; done | simp [cleanH, cs9_cl]; done | simp [cleanH, cs9_cl, cs3_cl, ints_cl]; done⟩
    obtain ⟨b80, rfl, rfl⟩ := h
    refine Run.acts [] [6, 7] rfl rfl rfl (.at rfl) (.cons (.at rfl) (.cons (.at rfl) .nil)) (.cons .refl (.cons (lend rfl) .nil)) (c_implOrbitsA 6 p l (n := n) (by omega) hl h) rfl rfl rfl (fun x H h => ?_) (fun x H h => ?_)
    · obtain ⟨b81, f81, rfl, hf81, rfl⟩ := h; exact ⟨rfl, famClean b81 f81⟩
    obtain ⟨b81, f81, rfl, hf81, rfl⟩ := h
    refine Run.move rfl rfl rfl (.at rfl) ?_
    refine Run.extract rfl rfl rfl (.at rfl) rfl ?_
    refine Run.extract rfl rfl rfl (.at rfl) rfl ?_
    refine Run.assign rfl rfl rfl (.at rfl) ?_
    refine Run.assign rfl rfl rfl (.at rfl) ?_
    refine Run.nil ?_
    refine WP.seq ?_
    refine WP.trim (fr' := [(6, _), (7, _), (9, _), (12, _), (14, _), (15, _)]) (H' := [_, _, _, _, _, _, _, _]) ?_ ⟨rfl, rfl, rfl, rfl, rfl, rfl, trivial⟩ rfl
    refine WP.seq (WP.region (l := [0, 1, 2, 3, 4, 5, 6, 7, 8]) rfl ?_)
    refine Run.move rfl rfl rfl (.at rfl) ?_
    refine Run.move rfl rfl rfl (.at rfl) ?_
    refine Run.acts [] [] rfl rfl rfl (.at rfl) (.cons (.at rfl) (.cons (.at rfl) .nil)) (.cons (lend_nest (i := 6) (j := 7) rfl rfl rfl rfl) (.cons .refl .nil)) ((hE hf81).acts) rfl rfl rfl (fun x H h => ?_) (fun x H h => ?_)
    · obtain ⟨rfl, rfl⟩ := h; exact ⟨rfl, by first | rfl | simp [cleanH, cs3_cl]; done | simp [cleanH, ints_cl]; done | simp [cleanH, cs3_cl, ints_cl]; done | simp [cleanH, cs9_cl]; done | simp [cleanH, cs9_cl, cs3_cl, ints_cl]; done⟩
    obtain ⟨rfl, rfl⟩ := h
    refine Run.not rfl rfl rfl (.at rfl) ?_
    refine Run.move rfl rfl rfl (.at rfl) ?_
    refine' Run.guarded rfl rfl rfl rfl rfl rfl (fun ht => ?_) ?_
    rotate_left
    · skip
      refine Run.move rfl rfl rfl (.at rfl) ?_
      exact single_nil
    refine' Run.guarded rfl rfl rfl rfl rfl rfl (fun ht => ?_) ?_
    rotate_left
    · skip
      refine Run.move rfl rfl rfl (.at rfl) ?_
      exact single_nil
    refine' Run.guarded rfl rfl rfl rfl rfl rfl (fun ht => ?_) ?_
    rotate_left
    · skip
      refine Run.int rfl rfl rfl (.opt rfl ht) (.opt rfl ht) rfl ?_
      exact single_nil
    refine Run.or rfl rfl rfl (.at rfl) (.at rfl) rfl ?_
    refine Run.nil ?_
    refine WP.cond_f (.at rfl) (by simp) ?_
    refine WP.skip ?_
    refine WP.seq (WP.region (l := [0]) rfl ?_)
    refine Run.assign rfl rfl rfl (.at rfl) ?_
    refine Run.nil ?_
    refine WP.seq (WP.region (l := [0, 1, 2, 3]) rfl ?_)
    refine Run.move rfl rfl rfl (.at rfl) ?_
    refine Run.move rfl rfl rfl (.at rfl) ?_
    refine Run.acts [] [] rfl rfl rfl (.at rfl) (.cons (.at rfl) (.cons (.at rfl) .nil)) (.cons (lend_nest (i := 2) (j := 3) rfl rfl (marksB_famA 0 101 f33).symm (marksB_length 101 f33)) (.cons .refl .nil)) ((hH hf33).acts) rfl rfl rfl (fun x H h => ?_) (fun x H h => ?_)
    · obtain ⟨rfl, rfl⟩ := h; exact ⟨rfl, by first | rfl | simp [cleanH, cs3_cl]; done | simp [cleanH, ints_cl]; done | simp [cleanH, cs3_cl, ints_cl]; done | simp [cleanH, cs9_cl]; done | simp [cleanH, cs9_cl, cs3_cl, ints_cl]; done⟩
    obtain ⟨rfl, rfl⟩ := h
    refine Run.assign rfl rfl rfl (.at rfl) ?_
    refine Run.nil ?_
    refine WP.seq ?_
    refine WP.seq (WP.region (l := [0, 1]) rfl ?_)
    refine Run.move rfl rfl rfl (.at rfl) ?_
    refine Run.int rfl rfl rfl (.at rfl) (.at rfl) rfl ?_
    refine Run.nil ?_
    refine WP.cond_f (.at rfl) (by have := hpos hf33; simp; omega) ?_
    refine WP.skip ?_
    refine WP.seq ?_
    refine WP.seq (WP.region (l := [0, 1, 2]) rfl ?_)
    refine Run.move rfl rfl rfl (.at rfl) ?_
    refine Run.move rfl rfl rfl (.at rfl) ?_
    refine Run.int rfl rfl rfl (.at rfl) (.at rfl) rfl ?_
    refine Run.nil ?_
    refine WP.cond_f (.at rfl) (by simp) ?_
    refine WP.skip ?_
    refine WP.trim (fr' := []) (H' := [_, _, _, _, _, _, _, _]) ?_ trivial rfl
    refine WP.seq (WP.region (l := [0]) rfl ?_)
    refine Run.assign rfl rfl rfl (.at rfl) ?_
    refine Run.nil ?_
    refine WP.ret ?_
    exact Ends.pure (.tmp rfl .nil) rfl
theorem c_orbLaw (p : Int) (l : List M3) {n : Nat} (hl : l.length = n) (hn : n ≤ 9223372036854775807) : Pure Try.prog 5 [.int .i64 p, .imm (cs9 l) n] (.bool true) := by
  by_cases h : 1000000 < n
  · exact c_orbLaw0 p l hl hn h
  · by_cases h0 : codeL p l [] = 0
    · exact c_orbLaw2 p l hl (by omega) h0
    · exact c_orbLaw1 p l hl (by omega) h0
end Go.Ab
