/- The walk of the code's orbits. -/
import Derived.Test.YtlipjbfmmheicaaP17
import Derived.Test.YtlipjbfmmheicaaO1
namespace Go.Ab
open Go.Proofs
abbrev KP : Ds := .arr 3 1 (.int .i64)
/-- Lists of points in blocks of their own. -/
def famA (id : Nat) (f : List (Nat × List V3)) : List AV := f.map fun e => .own id e.1 3 0 e.2.length e.2.length true
def famH (f : List (Nat × List V3)) : Ar := f.map fun e => (e.1, cs3 e.2)
def nest (L : List (List V3)) : List AV := L.map fun l => .imm (cs3 l) l.length
theorem famA_append (id : Nat) (f g : List (Nat × List V3)) : famA id (f ++ g) = famA id f ++ famA id g := by simp [famA]
theorem famH_append (f g : List (Nat × List V3)) : famH (f ++ g) = famH f ++ famH g := by simp [famH]
theorem famA_length (id : Nat) (f : List (Nat × List V3)) : (famA id f).length = f.length := by simp [famA]
theorem nest_at {L : List (List V3)} {k : Nat} (h : k < L.length) : (nest L)[k * 1]? = some (.imm (cs3 (L.getD k [])) (L.getD k []).length) := by
  simp [nest, h]
theorem nest_length (L : List (List V3)) : (nest L).length = L.length := by simp [nest]
theorem lend_fam {K : List Ar} {id i : Nat} {f : List (Nat × List V3)} (h : K[i]? = some (famH f)) : Lend1L K (famA id f) (nest (f.map Prod.snd)) := by
  have key : ∀ (suf pre : List (Nat × List V3)), f = pre ++ suf → Lend1L K (famA id suf) (nest (suf.map Prod.snd)) := by
    intro suf
    induction suf with
    | nil => intro pre _; exact .nil
    | cons e suf ih =>
      intro pre he
      refine .cons (.own (cs := cs3 e.2) (j := pre.length) ⟨_, h, ?_⟩ (Nat.le_refl _) (by rw [List.drop_zero, List.take_length])) (ih (pre ++ [e]) (by rw [he, List.append_assoc]; rfl))
      rw [he]
      simp [famH]
  exact key f [] rfl
theorem lend_nest {H : List Ar} {id i j bo n : Nat} {f g : List (Nat × List V3)} (h1 : H[i]? = some [(bo, famA 0 f)]) (h2 : H[j]? = some (famH g)) (e : famA 0 f = famA 0 g) (hn : g.length = n) : Lend H (.own id bo 1 0 n n true) (.imm (nest (g.map Prod.snd)) n) := by
  refine .nest (At.one h1) (Nat.le_refl _) ?_
  rw [List.drop_zero, List.take_of_length_le (by rw [e]; simp [famA, nest]), e]
  exact lend_fam h2
theorem famClean2 (b : Nat) (f g : List (Nat × List V3)) : cleanH [[(b, famA 0 f)], famH g] = true := by
  have h1 : (famA 0 f).all cl0 = true := by
    rw [List.all_eq_true]
    intro x hx
    obtain ⟨e, _, rfl⟩ := List.mem_map.1 hx
    rfl
  have h2 : (famH g).all (fun b => b.2.all cl0) = true := by
    rw [List.all_eq_true]
    intro x hx
    obtain ⟨e, _, rfl⟩ := List.mem_map.1 hx
    exact cs3_cl _
  simp only [cleanH, List.all_cons, List.all_nil, h1, h2, Bool.and_self]
theorem famClean (b : Nat) (f : List (Nat × List V3)) : cleanH [[(b, famA 0 f)], famH f] = true := famClean2 b f f
section
variable {C : Cx Try.prog 126} {Q : Post} {p : Int} {ms : List M3} {n N : Nat} {S : List V3}
theorem l_orbits0 (hN : N ≤ 200) (hS : S.length = N) (hnd : S.Nodup)
    (hQ : ∀ bm bc, Q (.exit 0) ⟨[(0, .int .i64 p), (1, .imm (cs9 ms) n), (5, .imm (cs3 S) N), (6, .mp 0 bm), (7, .own 1 bc 1 0 N N true)], [[(bm, .mark :: mapC KP (entN 0 S))], [(bc, ints (ns (List.range N)))], [], [], [], [], [], [], [], [], []]⟩) :
    ∀ (d k bm bc : Nat), k + d = N → LP C (nav Try.f31.body.get! [1, 1, 1, 0, 1, 0, 0]) Q ⟨[(0, .int .i64 p), (1, .imm (cs9 ms) n), (5, .imm (cs3 S) N), (6, .mp 0 bm), (7, .own 1 bc 1 0 k k true), (26, .imm (cs3 S) N), (27, .int .i64 N), (28, .int .i64 k)], [[(bm, .mark :: mapC KP (entN 0 (S.take k)))], [(bc, ints (ns (List.range k)))], [], [], [], [], [], [], [], [], []]⟩ := by
  intro d
  induction d with
  | zero =>
    intro k bm bc hd
    obtain rfl : k = N := by omega
    rw [List.take_of_length_le (by omega)]
    refine LP.round ?_
    refine WP.seq (WP.region (l := [0]) rfl ?_)
    refine Run.int rfl rfl rfl (.at rfl) (.at rfl) rfl ?_
    refine Run.nil ?_
    refine WP.seq ?_
    refine WP.cond_f (.at rfl) (by simp) ?_
    exact WP.keep (WP.exit (hQ bm bc)) (by repeat (first | exact trivial | refine ⟨rfl, ?_⟩)) (by repeat (first | exact HSub.nil | refine HSub.keep ?_ | refine HSub.dead ?_))
  | succ d ih =>
    intro k bm bc hd
    have hk : k < S.length := by omega
    have ht := take_getD (z := V3.O) hk
    have hno : ¬ S.getD k V3.O ∈ S.take k := by
      have h1 : (S.take (k + 1)).Nodup := (List.take_sublist _ _).nodup hnd
      rw [ht, List.nodup_append] at h1
      exact fun h => h1.2.2 _ h _ (by simp) rfl
    have hent : entN 0 (S.take (k + 1)) = entN 0 (S.take k) ++ [((S.getD k V3.O).l, .int .i64 (k : Nat))] := by
      rw [ht, entN_snoc, List.length_take, Nat.min_eq_left (by omega), Nat.zero_add]
    have hns : ints (ns (List.range (k + 1))) = ints (ns (List.range k)) ++ [.int .i64 (k : Nat)] := by
      rw [List.range_succ, ns_append, ints_append]
      rfl
    have hlc : (ints (ns (List.range k))).length = k := by rw [ints_length, ns_length, List.length_range]
    have htk : (ints (ns (List.range k))).take (k * 1) = ints (ns (List.range k)) := List.take_of_length_le (by omega)
    refine LP.round ?_
    refine WP.seq (WP.region (l := [0]) rfl ?_)
    refine Run.int rfl rfl rfl (.at rfl) (.at rfl) rfl ?_
    refine Run.nil ?_
    refine WP.seq ?_
    refine WP.cond_t (.at rfl) (by simp; omega) ?_
    refine WP.skip ?_
    refine WP.seq ?_
    refine WP.block ?_
    refine WP.seq (WP.region (l := [0, 1, 2, 3, 4, 5]) rfl ?_)
    refine Run.move rfl rfl rfl (.at rfl) ?_
    refine Run.idx_imm (j := k) rfl rfl rfl (.at rfl) (.at rfl) sl_51_3 rfl (show k < N by omega) ?_
    refine Run.loads rfl rfl rfl (.at rfl) .imm ag_33_3 (cs3_get hk) rfl ?_
    refine Run.alloc 2 rfl rfl rfl zr_33 (fun b9 => ?_)
    refine Run.assign rfl rfl rfl (.at rfl) ?_
    refine Run.store (j := 0) rfl rfl (.at rfl) rfl rfl (.at rfl) sz_33_3 rfl rfl (by first | decide | exact Nat.le_of_ble_eq_true rfl) rfl ?_
    refine Run.nil ?_
    refine WP.seq (WP.region (l := [0, 1, 2, 3]) rfl ?_)
    refine Run.move rfl rfl rfl (.at rfl) ?_
    refine Run.loads rfl rfl rfl (.at rfl) (place_adr rfl) ag_33_3 rfl rfl ?_
    refine Run.move rfl rfl rfl (.at rfl) ?_
    refine Run.mapUpdate (.arr 3 1 (.int .i64)) (S.getD k V3.O).l (entN 0 (S.take k)) rfl rfl (.at rfl) rfl (.at rfl) (.at rfl) mb_66 rfl (entN_len _ _) (by rw [entN_find, if_neg hno]) ?_
    refine Run.nil ?_
    refine WP.region (l := [0, 1, 2, 3, 4]) rfl ?_
    refine Run.move rfl rfl rfl (.at rfl) ?_
    refine Run.move rfl rfl rfl (.at rfl) ?_
    refine Run.buildSlice 3 rfl rfl rfl el_67 (by decide) (.cons (.at rfl) rfl .nil) rfl rfl (fun b38 => ?_)
    refine Run.append rfl rfl rfl (.at rfl) rfl el_67 (.at rfl) (.own (At.one rfl) rfl rfl) rfl (Nat.le_refl _) (by omega) (by omega) (by omega) (fun b39 => ?_)
    refine Run.assign rfl rfl rfl (.at rfl) ?_
    refine Run.nil ?_
    refine WP.region (l := [0, 1]) rfl ?_
    refine Run.add rfl rfl rfl (.at rfl) (.at rfl) (by omega) ?_
    refine Run.move rfl rfl rfl (.at rfl) ?_
    refine Run.nil ?_
    have h := ih (k + 1) bm b39 (by omega)
    rw [hent, hns] at h
    refine LP.hp (H' := [_, [(b39, ints (ns (List.range k)) ++ [.int .i64 (k : Nat)])], _, _, _, _, _, _, _, _, _]) (by
      show [_, [(b39, (ints (ns (List.range k))).take (k * 1) ++ _)], _, _, _, _, _, _, _, _, _] = _
      rw [htk]
      rfl) ?_
    exact LP.keep h (by repeat (first | exact trivial | refine ⟨rfl, ?_⟩)) (by repeat (first | exact HSub.nil | refine HSub.keep ?_ | refine HSub.dead ?_))
theorem l_orbits3 {j k bm bc b11 : Nat} {m : M3} {c : List Nat} {x y : Nat} (hN : N ≤ 200) (hc : c.length = N)
    (hQ : Q (.exit 6) ⟨[(0, .int .i64 p), (1, .imm (cs9 ms) n), (5, .imm (cs3 S) N), (6, .mp 0 bm), (7, .own 1 bc 1 0 N N true), (11, .adr 4 b11 0), (41, .imm (cs9 ms) n), (42, .int .i64 n), (43, .int .i64 j), (47, .imm (cs3 S) N), (48, .int .i64 N), (49, .int .i64 k)], [[(bm, .mark :: mapC KP (entN 0 S))], [(bc, ints (ns (relab (max x y) (min x y) c)))], [], [], [(b11, m.cs)], [], [], [], [], [], []]⟩) :
    ∀ (d i : Nat) (c' : List Nat), i + d = N → c' = relTo (max x y) (min x y) c i → LP C (nav Try.f31.body.get! [1, 1, 1, 1, 0, 1, 0, 0, 1, 1, 0, 0, 1, 1, 0, 0, 1, 1, 0, 0, 1, 1, 1, 1, 0, 0]) Q ⟨[(0, .int .i64 p), (1, .imm (cs9 ms) n), (5, .imm (cs3 S) N), (6, .mp 0 bm), (7, .own 1 bc 1 0 N N true), (11, .adr 4 b11 0), (41, .imm (cs9 ms) n), (42, .int .i64 n), (43, .int .i64 j), (47, .imm (cs3 S) N), (48, .int .i64 N), (49, .int .i64 k), (14, .int .i64 (x : Nat)), (15, .int .i64 (y : Nat)), (71, .int .i64 N), (72, .int .i64 i)], [[(bm, .mark :: mapC KP (entN 0 S))], [(bc, ints (ns c'))], [], [], [(b11, m.cs)], [], [], [], [], [], []]⟩ := by
  have hmax : (if (y : Int) > x then (y : Int) else x) = ((max x y : Nat) : Int) := by split <;> omega
  have hmin : (if (y : Int) < x then (y : Int) else x) = ((min x y : Nat) : Int) := by split <;> omega
  intro d
  induction d with
  | zero =>
    intro i c' hd hc'
    rw [relTo_full (by omega)] at hc'
    subst hc'
    refine LP.round ?_
    refine WP.seq (WP.region (l := [0]) rfl ?_)
    refine Run.int rfl rfl rfl (.at rfl) (.at rfl) rfl ?_
    refine Run.nil ?_
    refine WP.seq ?_
    refine WP.cond_f (.at rfl) (by simp; omega) ?_
    exact WP.keep (WP.exit hQ) (by repeat (first | exact trivial | refine ⟨rfl, ?_⟩)) (by repeat (first | exact HSub.nil | refine HSub.keep ?_ | refine HSub.dead ?_))
  | succ d ih =>
    intro i c' hd hc'
    have hl : c'.length = N := by rw [hc', relTo_length, hc]
    have hi : i < c'.length := by omega
    have hnext := relTo_next (hi := max x y) (lo := min x y) (c := c) (k := i) (by omega)
    have hget : c'.getD i 0 = c.getD i 0 := by rw [hc']; exact relTo_get (by omega)
    rw [← hc', ← hget] at hnext
    have hlc : (ints (ns c')).length = N := by rw [ints_length, ns_length, hl]
    refine LP.round ?_
    refine WP.seq (WP.region (l := [0]) rfl ?_)
    refine Run.int rfl rfl rfl (.at rfl) (.at rfl) rfl ?_
    refine Run.nil ?_
    refine WP.seq ?_
    refine WP.cond_t (.at rfl) (by simp; omega) ?_
    refine WP.skip ?_
    refine WP.seq ?_
    refine WP.block ?_
    refine WP.seq (WP.region (l := [0, 1]) rfl ?_)
    refine Run.move rfl rfl rfl (.at rfl) ?_
    refine Run.assign rfl rfl rfl (.at rfl) ?_
    refine Run.nil ?_
    refine WP.seq (WP.region (l := [0, 1, 2, 3, 4, 5, 6, 7]) rfl ?_)
    refine Run.move rfl rfl rfl (.at rfl) ?_
    refine Run.move rfl rfl rfl (.at rfl) ?_
    refine Run.idx (j := i) rfl rfl rfl (.at rfl) (.at rfl) sl_67_1 rfl (show i < N by omega) ?_
    refine Run.load rfl rfl rfl (.at rfl) (place_adr rfl) sc_3 (ns_at hi) ?_
    refine Run.move rfl rfl rfl (.at rfl) ?_
    refine Run.move rfl rfl rfl (.at rfl) ?_
    refine Run.max rfl rfl rfl (.at rfl) (.at rfl) ?_
    refine Run.weak 81 (x := .int .i64 ((max x y : Nat) : Int)) rfl (fun _ _ _ h => by rw [hmax] at h; exact h) ?_
    refine Run.int rfl rfl rfl (.at rfl) (.at rfl) rfl ?_
    refine Run.nil ?_
    refine WP.cond (.at rfl) (fun hc5 => ?_) (fun hc5 => ?_)
    · have h5 : c'.getD i 0 = max x y := by simp only [beq_iff_eq, beq_eq_false_iff_ne, ne_eq] at hc5; omega
      rw [if_pos h5] at hnext
      refine WP.region (l := [0, 1, 2, 3, 4, 5, 6]) rfl ?_
      refine Run.move rfl rfl rfl (.at rfl) ?_
      refine Run.move rfl rfl rfl (.at rfl) ?_
      refine Run.move rfl rfl rfl (.at rfl) ?_
      refine Run.move rfl rfl rfl (.at rfl) ?_
      refine Run.min rfl rfl rfl (.at rfl) (.at rfl) ?_
      refine Run.weak 87 (x := .int .i64 ((min x y : Nat) : Int)) rfl (fun _ _ _ h => by rw [hmin] at h; exact h) ?_
      refine Run.idx (j := i) rfl rfl rfl (.at rfl) (.at rfl) sl_67_1 rfl (show i < N by omega) ?_
      refine Run.store (j := 0) rfl rfl (.at rfl) rfl rfl (.at rfl) sz_3_1 rfl rfl (by omega) (ns_set hi) ?_
      refine Run.nil ?_
      refine WP.region (l := [0, 1]) rfl ?_
      refine Run.add rfl rfl rfl (.at rfl) (.at rfl) (by omega) ?_
      refine Run.move rfl rfl rfl (.at rfl) ?_
      refine Run.nil ?_
      exact LP.keep (ih (i + 1) _ (by omega) hnext.symm) (by repeat (first | exact trivial | refine ⟨rfl, ?_⟩)) (by repeat (first | exact HSub.nil | refine HSub.keep ?_ | refine HSub.dead ?_))
    · have h5 : ¬ c'.getD i 0 = max x y := by simp only [beq_iff_eq, beq_eq_false_iff_ne, ne_eq] at hc5; omega
      rw [if_neg h5] at hnext
      refine WP.skip ?_
      refine WP.region (l := [0, 1]) rfl ?_
      refine Run.add rfl rfl rfl (.at rfl) (.at rfl) (by omega) ?_
      refine Run.move rfl rfl rfl (.at rfl) ?_
      refine Run.nil ?_
      exact LP.keep (ih (i + 1) _ (by omega) hnext.symm) (by repeat (first | exact trivial | refine ⟨rfl, ?_⟩)) (by repeat (first | exact HSub.nil | refine HSub.keep ?_ | refine HSub.dead ?_))
theorem l_orbits2 {j bm bc b11 : Nat} {m : M3} {c : List Nat} (hp : IsP p) (hN : N ≤ 200) (hS : S.length = N) (hc : c.length = N) (hm : m.sm) (hsm : ∀ v ∈ S, v.sm) (him : ∀ v ∈ S, imgM p m v ∈ S)
    (hQ : ∀ c', c' = uniRow (fun i => S.idxOf (imgM p m (S.getD i V3.O))) c N → Q (.exit 4) ⟨[(0, .int .i64 p), (1, .imm (cs9 ms) n), (5, .imm (cs3 S) N), (6, .mp 0 bm), (7, .own 1 bc 1 0 N N true), (41, .imm (cs9 ms) n), (42, .int .i64 n), (43, .int .i64 j)], [[(bm, .mark :: mapC KP (entN 0 S))], [(bc, ints (ns c'))], [], [], [], [], [], [], [], [], []]⟩) :
    ∀ (d k : Nat) (c' : List Nat), k + d = N → c' = uniRow (fun i => S.idxOf (imgM p m (S.getD i V3.O))) c k → LP C (nav Try.f31.body.get! [1, 1, 1, 1, 0, 1, 0, 0, 1, 1, 0, 0, 1, 1, 0, 0]) Q ⟨[(0, .int .i64 p), (1, .imm (cs9 ms) n), (5, .imm (cs3 S) N), (6, .mp 0 bm), (7, .own 1 bc 1 0 N N true), (11, .adr 4 b11 0), (41, .imm (cs9 ms) n), (42, .int .i64 n), (43, .int .i64 j), (47, .imm (cs3 S) N), (48, .int .i64 N), (49, .int .i64 k)], [[(bm, .mark :: mapC KP (entN 0 S))], [(bc, ints (ns c'))], [], [], [(b11, m.cs)], [], [], [], [], [], []]⟩ := by
  intro d
  induction d with
  | zero =>
    intro k c' hd hc'
    obtain rfl : k = N := by omega
    refine LP.round ?_
    refine WP.seq (WP.region (l := [0]) rfl ?_)
    refine Run.int rfl rfl rfl (.at rfl) (.at rfl) rfl ?_
    refine Run.nil ?_
    refine WP.seq ?_
    refine WP.cond_f (.at rfl) (by simp) ?_
    exact WP.keep (WP.exit (hQ c' hc')) (by repeat (first | exact trivial | refine ⟨rfl, ?_⟩)) (by repeat (first | exact HSub.nil | refine HSub.keep ?_ | refine HSub.dead ?_))
  | succ d ih =>
    intro k c' hd hc'
    have hk : k < S.length := by omega
    have hl : c'.length = N := by rw [hc', uniRow_len, hc]
    have hnext := uniRow_succ (fun i => S.idxOf (imgM p m (S.getD i V3.O))) c k
    rw [← hc'] at hnext
    have hx := getD_mem (z := V3.O) hk
    have hin := him _ hx
    have hidx := idx_lt hin
    refine LP.round ?_
    refine WP.seq (WP.region (l := [0]) rfl ?_)
    refine Run.int rfl rfl rfl (.at rfl) (.at rfl) rfl ?_
    refine Run.nil ?_
    refine WP.seq ?_
    refine WP.cond_t (.at rfl) (by simp; omega) ?_
    refine WP.skip ?_
    refine WP.seq ?_
    refine WP.block ?_
    refine WP.seq (WP.region (l := [0, 1, 2, 3, 4, 5]) rfl ?_)
    refine Run.move rfl rfl rfl (.at rfl) ?_
    refine Run.idx_imm (j := k) rfl rfl rfl (.at rfl) (.at rfl) sl_51_3 rfl (show k < N by omega) ?_
    refine Run.loads rfl rfl rfl (.at rfl) .imm ag_33_3 (cs3_get hk) rfl ?_
    refine Run.alloc 5 rfl rfl rfl zr_33 (fun b13 => ?_)
    refine Run.assign rfl rfl rfl (.at rfl) ?_
    refine Run.store (j := 0) rfl rfl (.at rfl) rfl rfl (.at rfl) sz_33_3 rfl rfl (by first | decide | exact Nat.le_of_ble_eq_true rfl) rfl ?_
    refine Run.nil ?_
    refine WP.seq (WP.draw mx_0 ?_)
    refine Drawn.calmR ?_
    refine' DrawR.op 0 54 0 [(7, none)] rfl rfl (fun rest => ?_) ?_
    rotate_left
    · skip
      refine Run.move rfl rfl rfl (.at rfl) ?_
      exact single_nil
    refine' DrawR.op 1 55 1 [(12, none)] rfl rfl (fun rest => ?_) ?_
    rotate_left
    · skip
      refine Run.move rfl rfl rfl (.at rfl) ?_
      exact single_nil
    refine' DrawR.op 2 56 2 [(54, some 1), (55, some 0)] rfl rfl (fun rest => ?_) ?_
    rotate_left
    · skip
      refine Run.idx (j := k) rfl rfl rfl (.at rfl) (.at rfl) sl_67_1 rfl (show k < N by omega) ?_
      exact single_nil
    refine' DrawR.op 3 57 3 [(56, some 0)] rfl rfl (fun rest => ?_) ?_
    rotate_left
    · skip
      refine Run.load rfl rfl rfl (.at rfl) (place_adr rfl) sc_3 (ns_at (by omega)) ?_
      exact single_nil
    refine' DrawR.op 4 58 4 [(7, none)] rfl rfl (fun rest => ?_) ?_
    rotate_left
    · skip
      refine Run.move rfl rfl rfl (.at rfl) ?_
      exact single_nil
    refine' DrawR.op 5 59 5 [(6, none)] rfl rfl (fun rest => ?_) ?_
    rotate_left
    · skip
      refine Run.move rfl rfl rfl (.at rfl) ?_
      exact single_nil
    refine' DrawR.op 6 60 6 [(0, none)] rfl rfl (fun rest => ?_) ?_
    rotate_left
    · skip
      refine Run.move rfl rfl rfl (.at rfl) ?_
      exact single_nil
    refine' DrawR.op 7 61 7 [(11, none)] rfl rfl (fun rest => ?_) ?_
    rotate_left
    · skip
      refine Run.loads rfl rfl rfl (.at rfl) (place_adr rfl) ag_44_9 rfl rfl ?_
      exact single_nil
    refine' DrawR.op 8 62 8 [(13, none)] rfl rfl (fun rest => ?_) ?_
    rotate_left
    · skip
      refine Run.loads rfl rfl rfl (.at rfl) (place_adr rfl) ag_33_3 rfl rfl ?_
      exact single_nil
    refine' DrawR.op 9 63 9 [(60, some 2), (61, some 1), (62, some 0)] rfl rfl (fun rest => ?_) ?_
    rotate_left
    · skip
      refine Run.call rfl rfl rfl (.at rfl) (.cons (.at rfl) (.cons (.at rfl) (.cons (.at rfl) .nil))) (c_image p m (S.getD k V3.O) hp hm (hsm _ hx)) ?_
      exact single_nil
    refine' DrawR.op 10 64 10 [(59, some 4), (63, some 0)] rfl rfl (fun rest => ?_) ?_
    rotate_left
    · skip
      refine Run.lookupV (.arr 3 1 (.int .i64)) (imgM p m (S.getD k V3.O)).l (entN 0 S) rfl rfl rfl (.at rfl) rfl (.at rfl) mb_66 rfl (entN_len _ _) mz_66 rfl (entN_look hin) ?_
      exact single_nil
    refine' DrawR.op 11 65 11 [(58, some 6), (64, some 0)] rfl rfl (fun rest => ?_) ?_
    rotate_left
    · skip
      refine Run.idx (j := (S.idxOf (imgM p m (S.getD k V3.O)))) rfl rfl rfl (.at rfl) (.at rfl) sl_67_1 rfl (show S.idxOf (imgM p m (S.getD k V3.O)) < N by omega) ?_
      exact single_nil
    refine' DrawR.op 12 66 12 [(65, some 0)] rfl rfl (fun rest => ?_) ?_
    rotate_left
    · skip
      refine Run.load rfl rfl rfl (.at rfl) (place_adr rfl) sc_3 (ns_at (by omega)) ?_
      exact single_nil
    refine' DrawR.op 13 14 13 [(57, some 9)] rfl rfl (fun rest => ?_) ?_
    rotate_left
    · skip
      refine Run.assign rfl rfl rfl (.at rfl) ?_
      exact single_nil
    refine' DrawR.op 14 15 14 [(66, some 1)] rfl rfl (fun rest => ?_) ?_
    rotate_left
    · skip
      refine Run.assign rfl rfl rfl (.at rfl) ?_
      exact single_nil
    refine DrawR.tail [] rfl (by kernel_rfl) ?_
    refine Run.nil ?_
    refine WP.seq ?_
    refine WP.seq (WP.region (l := [0, 1, 2]) rfl ?_)
    refine Run.move rfl rfl rfl (.at rfl) ?_
    refine Run.move rfl rfl rfl (.at rfl) ?_
    refine Run.int rfl rfl rfl (.at rfl) (.at rfl) rfl ?_
    refine Run.nil ?_
    refine WP.cond (.at rfl) (fun hc3 => ?_) (fun hc3 => ?_)
    · have h3 : c'.getD k 0 = c'.getD (S.idxOf (imgM p m (S.getD k V3.O))) 0 := by simp only [beq_iff_eq, beq_eq_false_iff_ne, ne_eq] at hc3; omega
      unfold uni at hnext
      rw [if_pos h3] at hnext
      refine WP.exit ?_
      refine WP.region (l := [0, 1]) rfl ?_
      refine Run.add rfl rfl rfl (.at rfl) (.at rfl) (by omega) ?_
      refine Run.move rfl rfl rfl (.at rfl) ?_
      refine Run.nil ?_
      exact LP.keep (ih (k + 1) _ (by omega) hnext.symm) (by repeat (first | exact trivial | refine ⟨rfl, ?_⟩)) (by repeat (first | exact HSub.nil | refine HSub.keep ?_ | refine HSub.dead ?_))
    · have h3 : ¬ c'.getD k 0 = c'.getD (S.idxOf (imgM p m (S.getD k V3.O))) 0 := by simp only [beq_iff_eq, beq_eq_false_iff_ne, ne_eq] at hc3; omega
      unfold uni at hnext
      rw [if_neg h3] at hnext
      refine WP.skip ?_
      refine WP.seq (WP.region (l := [0, 1, 2]) rfl ?_)
      refine Run.move rfl rfl rfl (.at rfl) ?_
      refine Run.len rfl rfl rfl (.at rfl) is_67 rfl ?_
      refine Run.move rfl rfl rfl (.at rfl) ?_
      refine Run.nil ?_
      refine WP.block ?_
      refine WP.loop (LP.keep (l_orbits3 (c := c') hN hl ?_ N 0 c' (by omega) (relTo_zero _ _ _).symm) (by repeat (first | exact trivial | refine ⟨rfl, ?_⟩)) (by repeat (first | exact HSub.nil | refine HSub.keep ?_ | refine HSub.dead ?_)))
      refine WP.region (l := [0, 1]) rfl ?_
      refine Run.add rfl rfl rfl (.at rfl) (.at rfl) (by omega) ?_
      refine Run.move rfl rfl rfl (.at rfl) ?_
      refine Run.nil ?_
      exact LP.keep (ih (k + 1) _ (by omega) hnext.symm) (by repeat (first | exact trivial | refine ⟨rfl, ?_⟩)) (by repeat (first | exact HSub.nil | refine HSub.keep ?_ | refine HSub.dead ?_))
theorem l_orbits1 (hp : IsP p) (hn : n ≤ 8) (hl : ms.length = n) (hN : N ≤ 200) (hS : S.length = N) (hmir : irL p ms) (hsm : ∀ v ∈ S, v.sm) (him : ∀ m ∈ ms, ∀ v ∈ S, imgM p m v ∈ S)
    (hQ : ∀ bm bc, Q (.exit 2) ⟨[(5, .imm (cs3 S) N), (7, .own 1 bc 1 0 N N true)], [[(bm, .mark :: mapC KP (entN 0 S))], [(bc, ints (ns (uniAll (imgM p) S V3.O ms (List.range N))))], [], [], [], [], [], [], [], [], []]⟩) :
    ∀ (d j bm bc : Nat) (c' : List Nat), j + d = n → c'.length = N → c' = uniAll (imgM p) S V3.O (ms.take j) (List.range N) → LP C (nav Try.f31.body.get! [1, 1, 1, 1, 0, 1, 0, 0]) Q ⟨[(0, .int .i64 p), (1, .imm (cs9 ms) n), (5, .imm (cs3 S) N), (6, .mp 0 bm), (7, .own 1 bc 1 0 N N true), (41, .imm (cs9 ms) n), (42, .int .i64 n), (43, .int .i64 j)], [[(bm, .mark :: mapC KP (entN 0 S))], [(bc, ints (ns c'))], [], [], [], [], [], [], [], [], []]⟩ := by
  intro d
  induction d with
  | zero =>
    intro j bm bc c' hd hlc hc'
    rw [List.take_of_length_le (by omega)] at hc'
    subst hc'
    refine LP.round ?_
    refine WP.seq (WP.region (l := [0]) rfl ?_)
    refine Run.int rfl rfl rfl (.at rfl) (.at rfl) rfl ?_
    refine Run.nil ?_
    refine WP.seq ?_
    refine WP.cond_f (.at rfl) (by simp; omega) ?_
    exact WP.keep (WP.exit (hQ bm bc)) (by repeat (first | exact trivial | refine ⟨rfl, ?_⟩)) (by repeat (first | exact HSub.nil | refine HSub.keep ?_ | refine HSub.dead ?_))
  | succ d ih =>
    intro j bm bc c' hd hlc hc'
    have hj : j < ms.length := by omega
    have ht : ms.take (j + 1) = ms.take j ++ [ms.getD j M3.O] := take_getD (z := M3.O) hj
    have hmm := getD_mem (z := M3.O) hj
    have hnext := uniAll_snoc (st := imgM p) (S := S) (z := V3.O) (ms.take j) (ms.getD j M3.O) (List.range N)
    rw [← ht, ← hc', hS] at hnext
    refine LP.round ?_
    refine WP.seq (WP.region (l := [0]) rfl ?_)
    refine Run.int rfl rfl rfl (.at rfl) (.at rfl) rfl ?_
    refine Run.nil ?_
    refine WP.seq ?_
    refine WP.cond_t (.at rfl) (by simp; omega) ?_
    refine WP.skip ?_
    refine WP.seq ?_
    refine WP.block ?_
    refine WP.seq (WP.region (l := [0, 1, 2, 3]) rfl ?_)
    refine Run.idx_imm (j := j) rfl rfl rfl (.at rfl) (.at rfl) sl_26_9 rfl (show j < n by omega) ?_
    refine Run.loads rfl rfl rfl (.at rfl) .imm ag_44_9 (cs9_get hj) rfl ?_
    refine Run.alloc 4 rfl rfl rfl zr_44 (fun b11 => ?_)
    refine Run.store (j := 0) rfl rfl (.at rfl) rfl rfl (.at rfl) sz_44_9 rfl rfl (by first | decide | exact Nat.le_of_ble_eq_true rfl) rfl ?_
    refine Run.nil ?_
    refine WP.seq (WP.region (l := [0, 1, 2]) rfl ?_)
    refine Run.move rfl rfl rfl (.at rfl) ?_
    refine Run.len rfl rfl rfl (.at rfl) is_51 rfl ?_
    refine Run.move rfl rfl rfl (.at rfl) ?_
    refine Run.nil ?_
    refine WP.block ?_
    refine WP.loop (LP.keep (l_orbits2 (m := ms.getD j M3.O) (c := c') hp hN hS hlc (M3.ir_sm hp (irL_get hp hmir j)) hsm (him _ hmm) (fun c2 hc2 => ?_) N 0 c' (by omega) rfl) (by repeat (first | exact trivial | refine ⟨rfl, ?_⟩)) (by repeat (first | exact HSub.nil | refine HSub.keep ?_ | refine HSub.dead ?_)))
    refine WP.region (l := [0, 1]) rfl ?_
    refine Run.add rfl rfl rfl (.at rfl) (.at rfl) (by omega) ?_
    refine Run.move rfl rfl rfl (.at rfl) ?_
    refine Run.nil ?_
    exact LP.keep (ih (j + 1) bm bc c2 (by omega) (by rw [hc2, uniRow_len, hlc]) (hc2.trans hnext.symm)) (by repeat (first | exact trivial | refine ⟨rfl, ?_⟩)) (by repeat (first | exact HSub.nil | refine HSub.keep ?_ | refine HSub.dead ?_))
theorem l_orbits5 {i bc bo : Nat} {c : List Nat} {f : List (Nat × List V3)} (hN : N ≤ 200) (hS : S.length = N) (hc : c.length = N)
    (hQ : ∀ bl l, l = own S c i → Q (.exit 10) ⟨[(5, .imm (cs3 S) N), (7, .own 1 bc 1 0 N N true), (17, .own 6 bo 1 0 f.length f.length true), (93, .imm (cs3 S) N), (94, .int .i64 N), (95, .int .i64 i), (19, .own 7 bl 3 0 l.length l.length true)], [famH f, [(bc, ints (ns c))], [], [], [], [], [(bo, famA 0 f)], [(bl, cs3 l)], [], [], []]⟩) :
    ∀ (d k bl : Nat) (l : List V3), k + d = N → l = ownTo S c i k → LP C (nav Try.f31.body.get! [1, 1, 1, 1, 1, 1, 0, 1, 0, 0, 1, 1, 0, 0, 1, 1, 0, 1, 0, 0]) Q ⟨[(5, .imm (cs3 S) N), (7, .own 1 bc 1 0 N N true), (17, .own 6 bo 1 0 f.length f.length true), (93, .imm (cs3 S) N), (94, .int .i64 N), (95, .int .i64 i), (18, .int .i64 i), (19, .own 7 bl 3 0 l.length l.length true), (99, .imm (cs3 S) N), (100, .int .i64 N), (101, .int .i64 k)], [famH f, [(bc, ints (ns c))], [], [], [], [], [(bo, famA 0 f)], [(bl, cs3 l)], [], [], []]⟩ := by
  intro d
  induction d with
  | zero =>
    intro k bl l hd hl
    obtain rfl : k = N := by omega
    refine LP.round ?_
    refine WP.seq (WP.region (l := [0]) rfl ?_)
    refine Run.int rfl rfl rfl (.at rfl) (.at rfl) rfl ?_
    refine Run.nil ?_
    refine WP.seq ?_
    refine WP.cond_f (.at rfl) (by simp) ?_
    exact WP.keep (WP.exit (hQ bl l (by rw [hl, ← hS]; rfl))) (by repeat (first | exact trivial | refine ⟨rfl, ?_⟩)) (by repeat (first | exact HSub.nil | refine HSub.keep ?_ | refine HSub.dead ?_))
  | succ d ih =>
    intro k bl l hd hl
    have hk : k < S.length := by omega
    have hnext := ownTo_next S c i k
    have hle := ownTo_le S c i k
    rw [← hl] at hnext hle
    have hlc : (cs3 l).length = l.length * 3 := cs3_length l
    have htk := cs3_take l
    refine LP.round ?_
    refine WP.seq (WP.region (l := [0]) rfl ?_)
    refine Run.int rfl rfl rfl (.at rfl) (.at rfl) rfl ?_
    refine Run.nil ?_
    refine WP.seq ?_
    refine WP.cond_t (.at rfl) (by simp; omega) ?_
    refine WP.skip ?_
    refine WP.seq ?_
    refine WP.block ?_
    refine WP.seq (WP.region (l := [0, 1, 2, 3, 4, 5]) rfl ?_)
    refine Run.move rfl rfl rfl (.at rfl) ?_
    refine Run.idx_imm (j := k) rfl rfl rfl (.at rfl) (.at rfl) sl_51_3 rfl (show k < N by omega) ?_
    refine Run.loads rfl rfl rfl (.at rfl) .imm ag_33_3 (cs3_get hk) rfl ?_
    refine Run.alloc 8 rfl rfl rfl zr_33 (fun b21 => ?_)
    refine Run.assign rfl rfl rfl (.at rfl) ?_
    refine Run.store (j := 0) rfl rfl (.at rfl) rfl rfl (.at rfl) sz_33_3 rfl rfl (by first | decide | exact Nat.le_of_ble_eq_true rfl) rfl ?_
    refine Run.nil ?_
    refine WP.seq (WP.region (l := [0, 1, 2, 3, 4, 5]) rfl ?_)
    refine Run.move rfl rfl rfl (.at rfl) ?_
    refine Run.move rfl rfl rfl (.at rfl) ?_
    refine Run.idx (j := k) rfl rfl rfl (.at rfl) (.at rfl) sl_67_1 rfl (show k < N by omega) ?_
    refine Run.load rfl rfl rfl (.at rfl) (place_adr rfl) sc_3 (ns_at (by omega)) ?_
    refine Run.move rfl rfl rfl (.at rfl) ?_
    refine Run.int rfl rfl rfl (.at rfl) (.at rfl) rfl ?_
    refine Run.nil ?_
    refine WP.cond (.at rfl) (fun hc8 => ?_) (fun hc8 => ?_)
    · have h8 : c.getD k 0 = i := by simp only [beq_iff_eq, beq_eq_false_iff_ne, ne_eq] at hc8; omega
      rw [if_pos h8] at hnext
      refine WP.region (l := [0, 1, 2, 3, 4]) rfl ?_
      refine Run.move rfl rfl rfl (.at rfl) ?_
      refine Run.loads rfl rfl rfl (.at rfl) (place_adr rfl) ag_33_3 rfl rfl ?_
      refine Run.buildSlice 9 rfl rfl rfl el_51 (by decide) (.cons (.at rfl) rfl .nil) rfl rfl (fun b114 => ?_)
      refine Run.append rfl rfl rfl (.at rfl) rfl el_51 (.at rfl) (.own (At.one rfl) rfl rfl) rfl (Nat.le_refl _) (by omega) (by omega) (by omega) (fun b115 => ?_)
      refine Run.assign rfl rfl rfl (.at rfl) ?_
      refine Run.nil ?_
      refine WP.region (l := [0, 1]) rfl ?_
      refine Run.add rfl rfl rfl (.at rfl) (.at rfl) (by omega) ?_
      refine Run.move rfl rfl rfl (.at rfl) ?_
      refine Run.nil ?_
      have h := ih (k + 1) b115 _ (by omega) hnext.symm
      rw [List.length_append, List.length_singleton, cs3_append] at h
      refine LP.hp (H' := [_, _, _, _, _, _, _, [(b115, cs3 l ++ cs3 [S.getD k V3.O])], _, _, _]) (by
        show [_, _, _, _, _, _, _, [(b115, (cs3 l).take (l.length * 3) ++ _)], _, _, _] = _
        rw [htk]
        rfl) ?_
      exact LP.keep h (by repeat (first | exact trivial | refine ⟨rfl, ?_⟩)) (by repeat (first | exact HSub.nil | refine HSub.keep ?_ | refine HSub.dead ?_))
    · have h8 : ¬ c.getD k 0 = i := by simp only [beq_iff_eq, beq_eq_false_iff_ne, ne_eq] at hc8; omega
      rw [if_neg h8] at hnext
      refine WP.skip ?_
      refine WP.region (l := [0, 1]) rfl ?_
      refine Run.add rfl rfl rfl (.at rfl) (.at rfl) (by omega) ?_
      refine Run.move rfl rfl rfl (.at rfl) ?_
      refine Run.nil ?_
      exact LP.keep (ih (k + 1) bl l (by omega) hnext.symm) (by repeat (first | exact trivial | refine ⟨rfl, ?_⟩)) (by repeat (first | exact HSub.nil | refine HSub.keep ?_ | refine HSub.dead ?_))
theorem l_orbits4 {bc : Nat} {c : List Nat} (hN : N ≤ 200) (hS : S.length = N) (hc : c.length = N)
    (hQ : ∀ bo f, f.map Prod.snd = outTo S c N → Q (.exit 8) ⟨[(17, .own 6 bo 1 0 f.length f.length true)], [famH f, [], [], [], [], [], [(bo, famA 0 f)], [], [], [], []]⟩) :
    ∀ (d i bo : Nat) (f : List (Nat × List V3)), i + d = N → f.map Prod.snd = outTo S c i → LP C (nav Try.f31.body.get! [1, 1, 1, 1, 1, 1, 0, 1, 0, 0]) Q ⟨[(5, .imm (cs3 S) N), (7, .own 1 bc 1 0 N N true), (17, .own 6 bo 1 0 f.length f.length true), (93, .imm (cs3 S) N), (94, .int .i64 N), (95, .int .i64 i)], [famH f, [(bc, ints (ns c))], [], [], [], [], [(bo, famA 0 f)], [], [], [], []]⟩ := by
  intro d
  induction d with
  | zero =>
    intro i bo f hd hf
    obtain rfl : i = N := by omega
    refine LP.round ?_
    refine WP.seq (WP.region (l := [0]) rfl ?_)
    refine Run.int rfl rfl rfl (.at rfl) (.at rfl) rfl ?_
    refine Run.nil ?_
    refine WP.seq ?_
    refine WP.cond_f (.at rfl) (by simp) ?_
    exact WP.keep (WP.exit (hQ bo f hf)) (by repeat (first | exact trivial | refine ⟨rfl, ?_⟩)) (by repeat (first | exact HSub.nil | refine HSub.keep ?_ | refine HSub.dead ?_))
  | succ d ih =>
    intro i bo f hd hf
    have hnext := outTo_next S c i
    have hfl : f.length ≤ i := by
      have := congrArg List.length hf
      rw [List.length_map] at this
      rw [this]
      exact outTo_le S c i
    have hal := famA_length 0 f
    have htk : (famA 0 f).take (f.length * 1) = famA 0 f := List.take_of_length_le (by omega)
    refine LP.round ?_
    refine WP.seq (WP.region (l := [0]) rfl ?_)
    refine Run.int rfl rfl rfl (.at rfl) (.at rfl) rfl ?_
    refine Run.nil ?_
    refine WP.seq ?_
    refine WP.cond_t (.at rfl) (by simp; omega) ?_
    refine WP.skip ?_
    refine WP.seq ?_
    refine WP.block ?_
    refine WP.seq (WP.region (l := [0, 1]) rfl ?_)
    refine Run.move rfl rfl rfl (.at rfl) ?_
    refine Run.assign rfl rfl rfl (.at rfl) ?_
    refine Run.nil ?_
    refine WP.seq (WP.region (l := [0, 1]) rfl ?_)
    refine Run.buildSlice 7 rfl rfl rfl el_51 (by decide) .nil rfl rfl (fun b98 => ?_)
    refine Run.assign rfl rfl rfl (.at rfl) ?_
    refine Run.nil ?_
    refine WP.seq ?_
    refine WP.seq (WP.region (l := [0, 1, 2]) rfl ?_)
    refine Run.move rfl rfl rfl (.at rfl) ?_
    refine Run.len rfl rfl rfl (.at rfl) is_51 rfl ?_
    refine Run.move rfl rfl rfl (.at rfl) ?_
    refine Run.nil ?_
    refine WP.block ?_
    refine WP.weak 19 rfl (fun _ _ _ h => own_open (id' := 7) (Nat.le_refl _) h) ?_
    refine WP.loop (LP.keep (l_orbits5 (c := c) (i := i) hN hS hc (fun bl l hl => ?_) N 0 b98 [] (by omega) rfl) (by repeat (first | exact trivial | refine ⟨rfl, ?_⟩)) (by repeat (first | exact HSub.nil | refine HSub.keep ?_ | refine HSub.dead ?_)))
    refine WP.seq (WP.region (l := [0, 1, 2]) rfl ?_)
    refine Run.move rfl rfl rfl (.at rfl) ?_
    refine Run.len rfl rfl rfl (.at rfl) is_51 rfl ?_
    refine Run.int rfl rfl rfl (.at rfl) (.at rfl) rfl ?_
    refine Run.nil ?_
    refine WP.cond (.at rfl) (fun hc9 => ?_) (fun hc9 => ?_)
    · have h9 : ¬ (own S c i).length = 0 := by rw [← hl]; simp at hc9; omega
      rw [if_neg h9, ← hf, ← hl] at hnext
      refine WP.weak 19 rfl (fun _ _ _ h => own_name 0 h) ?_
      refine WP.join 0 7 (by decide) rfl rfl ?_
      refine WP.region (l := [0, 1, 2, 3, 4]) rfl ?_
      refine Run.move rfl rfl rfl (.at rfl) ?_
      refine Run.move rfl rfl rfl (.at rfl) ?_
      refine Run.buildSlice 10 rfl rfl rfl el_36 (by decide) (.cons (.at rfl) rfl .nil) rfl rfl (fun b122 => ?_)
      refine Run.append rfl rfl rfl (.at rfl) rfl el_36 (.at rfl) (.own (At.one rfl) rfl rfl) rfl (Nat.le_refl _) (by omega) (by omega) (by omega) (fun b123 => ?_)
      refine Run.assign rfl rfl rfl (.at rfl) ?_
      refine Run.nil ?_
      refine WP.region (l := [0, 1]) rfl ?_
      refine Run.add rfl rfl rfl (.at rfl) (.at rfl) (by omega) ?_
      refine Run.move rfl rfl rfl (.at rfl) ?_
      refine Run.nil ?_
      have h := ih (i + 1) b123 (f ++ [(bl, l)]) (by omega) (by rw [hnext, List.map_append]; rfl)
      rw [List.length_append, List.length_singleton, famA_append, famH_append] at h
      refine LP.hp (H' := [famH f ++ famH [(bl, l)], _, _, _, _, _, [(b123, famA 0 f ++ famA 0 [(bl, l)])], _, _, _, _]) (by
        show [_, _, _, _, _, _, [(b123, (famA 0 f).take (f.length * 1) ++ _)], _, _, _, _] = _
        rw [htk]
        rfl) ?_
      exact LP.keep h (by repeat (first | exact trivial | refine ⟨rfl, ?_⟩)) (by repeat (first | exact HSub.nil | refine HSub.keep ?_ | refine HSub.dead ?_))
    · have h9 : (own S c i).length = 0 := by rw [← hl]; simp at hc9; rw [hc9]; rfl
      rw [if_pos h9, ← hf] at hnext
      refine WP.skip ?_
      refine WP.region (l := [0, 1]) rfl ?_
      refine Run.add rfl rfl rfl (.at rfl) (.at rfl) (by omega) ?_
      refine Run.move rfl rfl rfl (.at rfl) ?_
      refine Run.nil ?_
      exact LP.keep (ih (i + 1) bo f (by omega) hnext.symm) (by repeat (first | exact trivial | refine ⟨rfl, ?_⟩)) (by repeat (first | exact HSub.nil | refine HSub.keep ?_ | refine HSub.dead ?_))
end
theorem c_orbits (p : Int) (ms : List M3) {n : Nat} (hp : IsP p) (hn : n ≤ 8) (hl : ms.length = n) (hm : mapsOk p ms = true) :
    Pure Try.prog 31 [.int .i64 p, .imm (cs9 ms) n] (.imm (nest (orbsM p ms)) (orbsM p ms).length) := by
  have hb := hp.bd
  have hcnt := pts_cnt hp
  have P := perms_of hm
  have hpl := @pts_length p
  have hap := c_allPoints p (by omega)
  rw [← hpl] at hap
  have hlen := (cls_spec (z := V3.O) P).len
  refine Pure.body 11 (n := 126) (fn := Try.f31) (c := Try.f31.body.get!) fn_31 rfl nm_31 rfl rfl fun C => ?_
  refine WP.seq (WP.region (l := [0]) rfl ?_)
  refine Run.assign rfl rfl rfl (.at rfl) ?_
  refine Run.nil ?_
  refine WP.seq (WP.region (l := [0, 1, 2]) rfl ?_)
  refine Run.move rfl rfl rfl (.at rfl) ?_
  refine Run.call rfl rfl rfl (.at rfl) (.cons (.at rfl) .nil) (hap) ?_
  refine Run.assign rfl rfl rfl (.at rfl) ?_
  refine Run.nil ?_
  refine WP.seq (WP.region (l := [0, 1, 2, 3]) rfl ?_)
  refine Run.makeMap 0 rfl rfl rfl (fun b24 => ?_)
  refine Run.buildSlice 1 rfl rfl rfl el_67 (by decide) .nil rfl rfl (fun b25 => ?_)
  refine Run.assign rfl rfl rfl (.at rfl) ?_
  refine Run.assign rfl rfl rfl (.at rfl) ?_
  refine Run.nil ?_
  refine WP.seq ?_
  refine WP.seq (WP.region (l := [0, 1, 2]) rfl ?_)
  refine Run.move rfl rfl rfl (.at rfl) ?_
  refine Run.len rfl rfl rfl (.at rfl) is_51 rfl ?_
  refine Run.move rfl rfl rfl (.at rfl) ?_
  refine Run.nil ?_
  refine WP.block ?_
  refine WP.weak 7 rfl (fun _ _ _ h => own_open (id' := 1) (Nat.le_refl _) h) ?_
  refine WP.loop (LP.keep (l_orbits0 (ms := ms) (n := n) (S := pts p) (by omega) rfl (pts_nodup hp) (fun bm bc => ?_) (pts p).length 0 b24 b25 (by omega)) (by repeat (first | exact trivial | refine ⟨rfl, ?_⟩)) (by repeat (first | exact HSub.nil | refine HSub.keep ?_ | refine HSub.dead ?_)))
  refine WP.seq ?_
  refine WP.seq (WP.region (l := [0, 1, 2]) rfl ?_)
  refine Run.move rfl rfl rfl (.at rfl) ?_
  refine Run.len rfl rfl rfl (.at rfl) is_26 rfl ?_
  refine Run.move rfl rfl rfl (.at rfl) ?_
  refine Run.nil ?_
  refine WP.block ?_
  refine WP.loop (LP.keep (l_orbits1 (S := pts p) hp hn hl (by omega) rfl (mapsOk_ir hm) (fun v hv => V3.ir_sm hp (pts_ir hp hv)) P.mem (fun bm2 bc2 => ?_) n 0 bm bc _ (by omega) (List.length_range) rfl) (by repeat (first | exact trivial | refine ⟨rfl, ?_⟩)) (by repeat (first | exact HSub.nil | refine HSub.keep ?_ | refine HSub.dead ?_)))
  refine WP.seq (WP.region (l := [0, 1]) rfl ?_)
  refine Run.buildSlice 6 rfl rfl rfl el_36 (by decide) .nil rfl rfl (fun b92 => ?_)
  refine Run.assign rfl rfl rfl (.at rfl) ?_
  refine Run.nil ?_
  refine WP.seq ?_
  refine WP.seq (WP.region (l := [0, 1, 2]) rfl ?_)
  refine Run.move rfl rfl rfl (.at rfl) ?_
  refine Run.len rfl rfl rfl (.at rfl) is_51 rfl ?_
  refine Run.move rfl rfl rfl (.at rfl) ?_
  refine Run.nil ?_
  refine WP.block ?_
  refine WP.weak 17 rfl (fun _ _ _ h => own_open (id' := 6) (Nat.le_refl _) h) ?_
  refine WP.loop (LP.keep (l_orbits4 (S := pts p) (c := cls (imgM p) (pts p) V3.O ms) (by omega) rfl hlen (fun bo f hf => ?_) (pts p).length 0 b92 [] (by omega) rfl) (by repeat (first | exact trivial | refine ⟨rfl, ?_⟩)) (by repeat (first | exact HSub.nil | refine HSub.keep ?_ | refine HSub.dead ?_)))
  have hf' : f.map Prod.snd = orbsM p ms := hf
  have hfl : (orbsM p ms).length = f.length := by rw [← hf', List.length_map]
  refine WP.freezeL 17 (K := [famH f, [], [], [], [], [], [(bo, famA 0 f)], [], [], [], []]) (L := [[], [], [], [], [], [], [], [], [], [], []]) (y := .imm (nest (orbsM p ms)) (orbsM p ms).length) rfl (by repeat (first | exact .nil | refine .l ?_)) (by
    rw [hfl]
    refine .nest (At.one (id := 6) (cs := famA 0 f) rfl) (Nat.le_refl _) ?_
    rw [List.drop_zero, ← hf', List.take_of_length_le (by simp [famA, nest])]
    exact lend_fam (i := 0) rfl) ?_
  refine WP.seq (WP.region (l := [0, 1]) rfl ?_)
  refine Run.move rfl rfl rfl (.at rfl) ?_
  refine Run.assign rfl rfl rfl (.at rfl) ?_
  refine Run.nil ?_
  refine WP.ret ?_
  exact Ends.pure (.tmp rfl .nil) rfl
end Go.Ab
