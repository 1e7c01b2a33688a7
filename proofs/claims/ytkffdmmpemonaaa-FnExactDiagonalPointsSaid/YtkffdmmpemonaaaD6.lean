/- The walk of the law of the diagonal points. -/
import Derived.Test.YtkffdmmpemonaaaD5
namespace Go.Ab
open Go.Proofs
theorem padP_take (l : List V3) : ((cs3 (padP l)).drop 0).take (cs3 l).length = cs3 l := by
  unfold padP
  rw [cs3_append, List.drop_zero, List.take_left' rfl]
theorem padP_length (l : List V3) {n : Nat} (hl : l.length = n) : (padP l).length = n + room n := by
  unfold padP
  rw [List.length_append, List.length_replicate, hl]
theorem c_diagLaw0 (p : Int) (l : List V3) {n : Nat} (hl : l.length = n) (hn : n ≤ 9223372036854775807) (h : 1000000 < n) : Pure Try.prog 3 [.int .i64 p, .imm (cs3 l) n] (.bool true) := by
  refine Pure.body 0 (n := 101) (fn := Try.f3) (c := Try.f3.body.get!) fn_3 rfl nm_3 rfl rfl fun C => ?_
  refine WP.seq (WP.region (l := [0]) rfl ?_)
  refine Run.assign rfl rfl rfl (.at rfl) ?_
  refine Run.nil ?_
  refine WP.seq (WP.region (l := [0]) rfl ?_)
  refine Run.assign rfl rfl rfl (.at rfl) ?_
  refine Run.nil ?_
  refine WP.seq (WP.region (l := [0, 1, 2, 3]) rfl ?_)
  refine Run.move rfl rfl rfl (.at rfl) ?_
  refine Run.move rfl rfl rfl (.at rfl) ?_
  refine Run.call rfl rfl rfl (.at rfl) (.cons (.at rfl) (.cons (.at rfl) .nil)) (c_szPointS 1000000 (by decide) hn) ?_
  refine Run.assign rfl rfl rfl (.at rfl) ?_
  refine Run.nil ?_
  refine WP.seq ?_
  refine WP.seq (WP.region (l := [0, 1]) rfl ?_)
  refine Run.move rfl rfl rfl (.at rfl) ?_
  refine Run.int rfl rfl rfl (.at rfl) (.at rfl) rfl ?_
  refine Run.nil ?_
  refine WP.cond_t (.at rfl) (by rw [if_pos (by omega)]; rfl) ?_
  refine WP.seq (WP.region (l := [0]) rfl ?_)
  refine Run.assign rfl rfl rfl (.at rfl) ?_
  refine Run.nil ?_
  refine WP.ret ?_
  exact Ends.pure (.tmp rfl .nil) rfl
theorem c_diagLaw1 (p : Int) (l : List V3) {n : Nat} (hl : l.length = n) (hn : n ≤ 1000000) (h : diagErr p l ≠ 0) : Pure Try.prog 3 [.int .i64 p, .imm (cs3 l) n] (.bool true) := by
  have hrm := room_le n
  have hpl := padP_length l hl
  have lend : ∀ {H : List Ar} {id b : Nat}, H[id]? = some [(b, cs3 (padP l))] → Lend H (.own id b 3 0 n (n + room n) false) (.imm (cs3 l) n) := fun h => Lend.one h (by omega) (padP_take l)
  have last : ∀ b : Nat, n = 0 ∨ (true && decide (n = 0)) = false := fun _ => by cases n <;> simp
  by_cases h0 : n = 0
  · skip
    refine Pure.body 7 (n := 101) (fn := Try.f3) (c := Try.f3.body.get!) fn_3 rfl nm_3 rfl rfl fun C => ?_
    refine WP.seq (WP.region (l := [0]) rfl ?_)
    refine Run.assign rfl rfl rfl (.at rfl) ?_
    refine Run.nil ?_
    refine WP.seq (WP.region (l := [0]) rfl ?_)
    refine Run.assign rfl rfl rfl (.at rfl) ?_
    refine Run.nil ?_
    refine WP.seq (WP.region (l := [0, 1, 2, 3]) rfl ?_)
    refine Run.move rfl rfl rfl (.at rfl) ?_
    refine Run.move rfl rfl rfl (.at rfl) ?_
    refine Run.call rfl rfl rfl (.at rfl) (.cons (.at rfl) (.cons (.at rfl) .nil)) (c_szPointS 1000000 (by decide) (by omega)) ?_
    refine Run.assign rfl rfl rfl (.at rfl) ?_
    refine Run.nil ?_
    refine WP.seq ?_
    refine WP.seq (WP.region (l := [0, 1]) rfl ?_)
    refine Run.move rfl rfl rfl (.at rfl) ?_
    refine Run.int rfl rfl rfl (.at rfl) (.at rfl) rfl ?_
    refine Run.nil ?_
    refine WP.cond_f (.at rfl) (by rw [if_neg (by omega)]; simp; omega) ?_
    refine WP.skip ?_
    refine WP.seq (WP.region (l := [0, 1, 2, 3, 4, 5, 6, 7, 8]) rfl ?_)
    refine Run.move rfl rfl rfl (.at rfl) ?_
    refine Run.move rfl rfl rfl (.at rfl) ?_
    refine Run.acts [] [0] rfl rfl rfl (.at rfl) (.cons (.at rfl) (.cons (.at rfl) .nil)) (LendL.refl _ _) (c_toPointS 0 l false hn hl rfl) rfl rfl rfl (fun x H h => ?_) (fun x H h => ?_)
    · obtain ⟨b24, rfl, rfl⟩ := h; exact ⟨rfl, by first | rfl | simp [cleanH, cs3_cl] | simp [cleanH, ints_cl] | simp [cleanH, cs3_cl, ints_cl]⟩
    obtain ⟨b24, rfl, rfl⟩ := h
    refine Run.acts [] [] rfl rfl rfl (.at rfl) (.cons (.at rfl) (.cons (.at rfl) .nil)) (.cons .refl (.cons (lend rfl) .nil)) ((c_specDiagNo p l (by omega) hl h).acts) rfl rfl rfl (fun x H h => ?_) (fun x H h => ?_)
    · obtain ⟨rfl, rfl⟩ := h; exact ⟨rfl, by first | rfl | simp [cleanH, cs3_cl] | simp [cleanH, ints_cl] | simp [cleanH, cs3_cl, ints_cl]⟩
    obtain ⟨rfl, rfl⟩ := h
    refine Run.move rfl rfl rfl (.at rfl) ?_
    refine Run.extract rfl rfl rfl (.at rfl) rfl ?_
    refine Run.extract rfl rfl rfl (.at rfl) rfl ?_
    refine Run.assign rfl rfl rfl (.at rfl) ?_
    refine Run.assign rfl rfl rfl (.at rfl) ?_
    refine Run.nil ?_
    refine WP.seq (WP.region (l := [0, 1, 2]) rfl ?_)
    refine Run.move rfl rfl rfl (.at rfl) ?_
    refine Run.acts [] [1] rfl rfl rfl (.at rfl) (.cons (.at rfl) (.cons (.at rfl) .nil)) (LendL.refl _ _) (c_toPointS 1 l false hn hl rfl) rfl rfl rfl (fun x H h => ?_) (fun x H h => ?_)
    · obtain ⟨b29, rfl, rfl⟩ := h; exact ⟨rfl, by first | rfl | simp [cleanH, cs3_cl] | simp [cleanH, ints_cl] | simp [cleanH, cs3_cl, ints_cl]⟩
    obtain ⟨b29, rfl, rfl⟩ := h
    refine Run.assign rfl rfl rfl (.at rfl) ?_
    refine Run.nil ?_
    refine WP.seq (WP.region (l := [0, 1, 2, 3, 4, 5, 6, 7]) rfl ?_)
    refine Run.move rfl rfl rfl (.at rfl) ?_
    refine Run.move rfl rfl rfl (.at rfl) ?_
    refine Run.acts [] [] rfl rfl rfl (.at rfl) (.cons (.at rfl) (.cons (.at rfl) .nil)) (.cons .refl (.cons (lend rfl) .nil)) ((c_implDiagNo p l (by omega) hl h).acts) rfl rfl rfl (fun x H h => ?_) (fun x H h => ?_)
    · obtain ⟨rfl, rfl⟩ := h; exact ⟨rfl, by first | rfl | simp [cleanH, cs3_cl] | simp [cleanH, ints_cl] | simp [cleanH, cs3_cl, ints_cl]⟩
    obtain ⟨rfl, rfl⟩ := h
    refine Run.move rfl rfl rfl (.at rfl) ?_
    refine Run.extract rfl rfl rfl (.at rfl) rfl ?_
    refine Run.extract rfl rfl rfl (.at rfl) rfl ?_
    refine Run.assign rfl rfl rfl (.at rfl) ?_
    refine Run.assign rfl rfl rfl (.at rfl) ?_
    refine Run.nil ?_
    refine WP.seq ?_
    refine WP.trim (fr' := [(0, _), (1, _), (4, _), (6, _), (7, _), (8, _), (9, _), (10, _)]) (H' := [_, _, _, _, _, _, _]) ?_ ⟨rfl, rfl, rfl, rfl, rfl, rfl, rfl, rfl, trivial⟩ rfl
    refine WP.seq (WP.region (l := [0, 1, 2, 3, 4, 5, 6, 7, 8]) rfl ?_)
    refine Run.move rfl rfl rfl (.at rfl) ?_
    refine Run.move rfl rfl rfl (.at rfl) ?_
    refine Run.acts [] [] rfl rfl rfl (.at rfl) (.cons (.at rfl) (.cons (.at rfl) .nil)) (.cons .nil (.cons .nil .nil)) ((c_eqPointS [] [] (by decide) rfl rfl).acts) rfl rfl rfl (fun x H h => ?_) (fun x H h => ?_)
    · obtain ⟨rfl, rfl⟩ := h; exact ⟨rfl, by first | rfl | simp [cleanH, cs3_cl] | simp [cleanH, ints_cl] | simp [cleanH, cs3_cl, ints_cl]⟩
    obtain ⟨rfl, rfl⟩ := h
    refine Run.not rfl rfl rfl (.at rfl) ?_
    refine Run.move rfl rfl rfl (.at rfl) ?_
    refine' Run.guarded rfl rfl rfl rfl rfl rfl (fun ht => ?_) ?_
    rotate_left
    · skip
      refine Run.move rfl rfl rfl (.at rfl) ?_
      exact single_nil
    refine' Run.guarded rfl rfl rfl rfl rfl rfl (fun ht => ?_) ?_
    rotate_left
    · skip
      refine Run.move rfl rfl rfl (.at rfl) ?_
      exact single_nil
    refine' Run.guarded rfl rfl rfl rfl rfl rfl (fun ht => ?_) ?_
    rotate_left
    · skip
      refine Run.int rfl rfl rfl (.opt rfl ht) (.opt rfl ht) rfl ?_
      exact single_nil
    refine Run.or rfl rfl rfl (.at rfl) (.at rfl) rfl ?_
    refine Run.nil ?_
    refine WP.cond_f (.at rfl) (by simp) ?_
    refine WP.skip ?_
    refine WP.seq ?_
    refine WP.seq (WP.region (l := [0, 1, 2, 3, 4]) rfl ?_)
    refine Run.move rfl rfl rfl (.at rfl) ?_
    refine Run.move rfl rfl rfl (.at rfl) ?_
    refine Run.acts [] [2] rfl rfl rfl (.at rfl) (.cons (.at rfl) (.cons (.at rfl) .nil)) (LendL.refl _ _) (c_toPointS 2 l false hn hl rfl) rfl rfl rfl (fun x H h => ?_) (fun x H h => ?_)
    · obtain ⟨b47, rfl, rfl⟩ := h; exact ⟨rfl, by first | rfl | simp [cleanH, cs3_cl] | simp [cleanH, ints_cl] | simp [cleanH, cs3_cl, ints_cl]⟩
    obtain ⟨b47, rfl, rfl⟩ := h
    refine Run.acts [1, 2] [1, 2] rfl rfl rfl (.at rfl) (.cons (.at rfl) (.cons (.at rfl) .nil)) (LendL.refl _ _) (c_intactPointS 1 2 b29 b47 n (n + room n) (n + room n) false false (padP l) (padP l) hn hpl hpl (Nat.le_refl _) (Nat.le_refl _)) rfl rfl rfl (fun x H h => ?_) (fun x H h => ?_)
    · obtain ⟨rfl, rfl⟩ := h; exact ⟨rfl, by first | rfl | simp [cleanH, cs3_cl] | simp [cleanH, ints_cl] | simp [cleanH, cs3_cl, ints_cl]⟩
    obtain ⟨rfl, rfl⟩ := h
    refine Run.not rfl rfl rfl (.at rfl) ?_
    refine Run.nil ?_
    refine WP.cond_f (.at rfl) (by simp) ?_
    refine WP.skip ?_
    refine WP.seq (WP.region (l := [0]) rfl ?_)
    refine Run.assign rfl rfl rfl (.at rfl) ?_
    refine Run.nil ?_
    refine WP.seq (WP.region (l := [0, 1, 2, 3]) rfl ?_)
    refine Run.move rfl rfl rfl (.at rfl) ?_
    refine Run.move rfl rfl rfl (.at rfl) ?_
    refine Run.acts [1] [1] rfl rfl rfl (.at rfl) (.cons (.at rfl) (.cons (.at rfl) .nil)) (LendL.refl _ _) (c_markPointS 1 b29 n (n + room n) false (padP l) 101 (by decide) (by omega) (by omega)) rfl rfl rfl (fun x H h => ?_) (fun x H h => ?_)
    · obtain ⟨rfl, rfl⟩ := h; exact ⟨rfl, by first | rfl | simp [cleanH, cs3_cl] | simp [cleanH, ints_cl] | simp [cleanH, cs3_cl, ints_cl]⟩
    obtain ⟨rfl, rfl⟩ := h
    refine Run.assign rfl rfl rfl (.at rfl) ?_
    refine Run.nil ?_
    refine WP.seq ?_
    refine WP.trim (fr' := [(0, _), (1, _), (4, _), (6, _), (7, _), (9, _), (10, _), (11, _)]) (H' := [_, _, _, _, _, _, _]) ?_ ⟨rfl, rfl, rfl, rfl, rfl, rfl, rfl, rfl, trivial⟩ rfl
    refine WP.seq (WP.region (l := [0, 1, 2, 3, 4, 5, 6, 7, 8, 9, 10, 11, 12]) rfl ?_)
    refine Run.move rfl rfl rfl (.at rfl) ?_
    refine Run.int rfl rfl rfl (.at rfl) (.at rfl) rfl ?_
    refine Run.move rfl rfl rfl (.at rfl) ?_
    refine' Run.guarded rfl rfl rfl rfl rfl rfl (fun ht => ?_) ?_
    rotate_left
    · skip
      refine Run.move rfl rfl rfl (.at rfl) ?_
      exact single_nil
    refine' Run.guarded rfl rfl rfl rfl rfl rfl (fun ht => ?_) ?_
    rotate_left
    · skip
      refine Run.move rfl rfl rfl (.at rfl) ?_
      exact single_nil
    refine' Run.guarded rfl rfl rfl rfl rfl rfl (fun ht => ?_) ?_
    rotate_left
    · skip
      refine Run.acts [] [] rfl rfl rfl (.at rfl) (.cons (.opt rfl ht) (.cons (.opt rfl ht) .nil)) (.cons .nil (.cons .nil .nil)) ((c_eqPointS [] [] (by decide) rfl rfl).acts) rfl rfl rfl (fun x H h => ?_) (fun x H h => ?_)
      · obtain ⟨rfl, rfl⟩ := h; exact ⟨rfl, by first | rfl | simp [cleanH, cs3_cl] | simp [cleanH, ints_cl] | simp [cleanH, cs3_cl, ints_cl]⟩
      obtain ⟨rfl, rfl⟩ := h
      exact single_nil
    refine' Run.guarded rfl rfl rfl rfl rfl rfl (fun ht => ?_) ?_
    rotate_left
    · skip
      refine Run.not rfl rfl rfl (.opt rfl ht) ?_
      exact single_nil
    refine Run.or rfl rfl rfl (.at rfl) (.at rfl) rfl ?_
    refine Run.move rfl rfl rfl (.at rfl) ?_
    refine' Run.guarded rfl rfl rfl rfl rfl rfl (fun ht => ?_) ?_
    rotate_left
    · skip
      refine Run.move rfl rfl rfl (.at rfl) ?_
      exact single_nil
    refine' Run.guarded rfl rfl rfl rfl rfl rfl (fun ht => ?_) ?_
    rotate_left
    · skip
      refine Run.move rfl rfl rfl (.at rfl) ?_
      exact single_nil
    refine' Run.guarded rfl rfl rfl rfl rfl rfl (fun ht => ?_) ?_
    rotate_left
    · skip
      refine Run.int rfl rfl rfl (.opt rfl ht) (.opt rfl ht) rfl ?_
      exact single_nil
    refine Run.or rfl rfl rfl (.at rfl) (.at rfl) rfl ?_
    refine Run.nil ?_
    refine WP.cond_f (.at rfl) (by simp; omega) ?_
    refine WP.skip ?_
    refine WP.seq (WP.region (l := [0]) rfl ?_)
    refine Run.assign rfl rfl rfl (.at rfl) ?_
    refine Run.nil ?_
    refine WP.seq (WP.region (l := [0, 1, 2, 3]) rfl ?_)
    refine Run.move rfl rfl rfl (.at rfl) ?_
    refine Run.move rfl rfl rfl (.at rfl) ?_
    refine Run.call rfl rfl rfl (.at rfl) (.cons (.at rfl) (.cons (.at rfl) .nil)) (c_markPointS_nil 101) ?_
    refine Run.assign rfl rfl rfl (.at rfl) ?_
    refine Run.nil ?_
    refine WP.trim (fr' := [(0, _), (1, _), (4, _), (6, _), (7, _), (9, _), (12, _)]) (H' := [_, _, _, _, _, _, _]) ?_ ⟨rfl, rfl, rfl, rfl, rfl, rfl, rfl, trivial⟩ rfl
    refine WP.seq (WP.region (l := [0]) rfl ?_)
    refine Run.assign rfl rfl rfl (.at rfl) ?_
    refine Run.nil ?_
    refine WP.seq (WP.region (l := [0, 1, 2, 3]) rfl ?_)
    refine Run.move rfl rfl rfl (.at rfl) ?_
    refine Run.move rfl rfl rfl (.at rfl) ?_
    refine Run.acts [] [] rfl rfl rfl (.at rfl) (.cons (.at rfl) (.cons (.at rfl) .nil)) (.cons .nil (.cons .refl .nil)) ((c_heldPointS [] 101 (by decide) (by decide) rfl (fun i h => by cases h)).acts) rfl rfl rfl (fun x H h => ?_) (fun x H h => ?_)
    · obtain ⟨rfl, rfl⟩ := h; exact ⟨rfl, by first | rfl | simp [cleanH, cs3_cl] | simp [cleanH, ints_cl] | simp [cleanH, cs3_cl, ints_cl]⟩
    obtain ⟨rfl, rfl⟩ := h
    refine Run.assign rfl rfl rfl (.at rfl) ?_
    refine Run.nil ?_
    refine WP.seq ?_
    refine WP.seq (WP.region (l := [0, 1]) rfl ?_)
    refine Run.move rfl rfl rfl (.at rfl) ?_
    refine Run.int rfl rfl rfl (.at rfl) (.at rfl) rfl ?_
    refine Run.nil ?_
    refine WP.cond_f (.at rfl) rfl ?_
    refine WP.skip ?_
    refine WP.seq ?_
    refine WP.seq (WP.region (l := [0, 1, 2]) rfl ?_)
    refine Run.move rfl rfl rfl (.at rfl) ?_
    refine Run.move rfl rfl rfl (.at rfl) ?_
    refine Run.int rfl rfl rfl (.at rfl) (.at rfl) rfl ?_
    refine Run.nil ?_
    refine WP.cond_f (.at rfl) rfl ?_
    refine WP.skip ?_
    refine WP.seq (WP.region (l := [0, 1, 2, 3, 4, 5, 6, 7, 8]) rfl ?_)
    refine Run.move rfl rfl rfl (.at rfl) ?_
    refine Run.move rfl rfl rfl (.at rfl) ?_
    refine Run.call rfl rfl rfl (.at rfl) (.cons (.at rfl) (.cons (.at rfl) .nil)) (c_toPointS_nil h0) ?_
    refine Run.acts [] [] rfl rfl rfl (.at rfl) (.cons (.at rfl) (.cons (.at rfl) .nil)) (.cons .refl (.cons (by subst h0; have : l = [] := List.length_eq_zero_iff.1 hl; subst this; exact .nil) .nil)) ((c_implDiagNo p l (by omega) hl h).acts) rfl rfl rfl (fun x H h => ?_) (fun x H h => ?_)
    · obtain ⟨rfl, rfl⟩ := h; exact ⟨rfl, by first | rfl | simp [cleanH, cs3_cl] | simp [cleanH, ints_cl] | simp [cleanH, cs3_cl, ints_cl]⟩
    obtain ⟨rfl, rfl⟩ := h
    refine Run.move rfl rfl rfl (.at rfl) ?_
    refine Run.extract rfl rfl rfl (.at rfl) rfl ?_
    refine Run.extract rfl rfl rfl (.at rfl) rfl ?_
    refine Run.assign rfl rfl rfl (.at rfl) ?_
    refine Run.assign rfl rfl rfl (.at rfl) ?_
    refine Run.nil ?_
    refine WP.seq ?_
    refine WP.trim (fr' := [(4, _), (6, _), (7, _), (9, _), (12, _), (13, _), (14, _), (15, _)]) (H' := [_, _, _, _, _, _, _]) ?_ ⟨rfl, rfl, rfl, rfl, rfl, rfl, rfl, rfl, trivial⟩ rfl
    refine WP.seq (WP.region (l := [0, 1, 2, 3, 4, 5, 6, 7, 8]) rfl ?_)
    refine Run.move rfl rfl rfl (.at rfl) ?_
    refine Run.move rfl rfl rfl (.at rfl) ?_
    refine Run.acts [] [] rfl rfl rfl (.at rfl) (.cons (.at rfl) (.cons (.at rfl) .nil)) (.cons .nil (.cons .nil .nil)) ((c_eqPointS [] [] (by decide) rfl rfl).acts) rfl rfl rfl (fun x H h => ?_) (fun x H h => ?_)
    · obtain ⟨rfl, rfl⟩ := h; exact ⟨rfl, by first | rfl | simp [cleanH, cs3_cl] | simp [cleanH, ints_cl] | simp [cleanH, cs3_cl, ints_cl]⟩
    obtain ⟨rfl, rfl⟩ := h
    refine Run.not rfl rfl rfl (.at rfl) ?_
    refine Run.move rfl rfl rfl (.at rfl) ?_
    refine' Run.guarded rfl rfl rfl rfl rfl rfl (fun ht => ?_) ?_
    rotate_left
    · skip
      refine Run.move rfl rfl rfl (.at rfl) ?_
      exact single_nil
    refine' Run.guarded rfl rfl rfl rfl rfl rfl (fun ht => ?_) ?_
    rotate_left
    · skip
      refine Run.move rfl rfl rfl (.at rfl) ?_
      exact single_nil
    refine' Run.guarded rfl rfl rfl rfl rfl rfl (fun ht => ?_) ?_
    rotate_left
    · skip
      refine Run.int rfl rfl rfl (.opt rfl ht) (.opt rfl ht) rfl ?_
      exact single_nil
    refine Run.or rfl rfl rfl (.at rfl) (.at rfl) rfl ?_
    refine Run.nil ?_
    refine WP.cond_f (.at rfl) (by simp) ?_
    refine WP.skip ?_
    refine WP.seq (WP.region (l := [0]) rfl ?_)
    refine Run.assign rfl rfl rfl (.at rfl) ?_
    refine Run.nil ?_
    refine WP.seq (WP.region (l := [0, 1, 2, 3]) rfl ?_)
    refine Run.move rfl rfl rfl (.at rfl) ?_
    refine Run.move rfl rfl rfl (.at rfl) ?_
    refine Run.acts [] [] rfl rfl rfl (.at rfl) (.cons (.at rfl) (.cons (.at rfl) .nil)) (.cons .nil (.cons .refl .nil)) ((c_heldPointS [] 101 (by decide) (by decide) rfl (fun i h => by cases h)).acts) rfl rfl rfl (fun x H h => ?_) (fun x H h => ?_)
    · obtain ⟨rfl, rfl⟩ := h; exact ⟨rfl, by first | rfl | simp [cleanH, cs3_cl] | simp [cleanH, ints_cl] | simp [cleanH, cs3_cl, ints_cl]⟩
    obtain ⟨rfl, rfl⟩ := h
    refine Run.assign rfl rfl rfl (.at rfl) ?_
    refine Run.nil ?_
    refine WP.seq ?_
    refine WP.seq (WP.region (l := [0, 1]) rfl ?_)
    refine Run.move rfl rfl rfl (.at rfl) ?_
    refine Run.int rfl rfl rfl (.at rfl) (.at rfl) rfl ?_
    refine Run.nil ?_
    refine WP.cond_f (.at rfl) rfl ?_
    refine WP.skip ?_
    refine WP.seq ?_
    refine WP.seq (WP.region (l := [0, 1, 2]) rfl ?_)
    refine Run.move rfl rfl rfl (.at rfl) ?_
    refine Run.move rfl rfl rfl (.at rfl) ?_
    refine Run.int rfl rfl rfl (.at rfl) (.at rfl) rfl ?_
    refine Run.nil ?_
    refine WP.cond_f (.at rfl) rfl ?_
    refine WP.skip ?_
    refine WP.trim (fr' := [(4, _)]) (H' := [_, _, _, _, _, _, _]) ?_ ⟨rfl, trivial⟩ rfl
    refine WP.seq (WP.region (l := [0]) rfl ?_)
    refine Run.assign rfl rfl rfl (.at rfl) ?_
    refine Run.nil ?_
    refine WP.ret ?_
    exact Ends.pure (.tmp rfl .nil) rfl
  · skip
    refine Pure.body 7 (n := 101) (fn := Try.f3) (c := Try.f3.body.get!) fn_3 rfl nm_3 rfl rfl fun C => ?_
    refine WP.seq (WP.region (l := [0]) rfl ?_)
    refine Run.assign rfl rfl rfl (.at rfl) ?_
    refine Run.nil ?_
    refine WP.seq (WP.region (l := [0]) rfl ?_)
    refine Run.assign rfl rfl rfl (.at rfl) ?_
    refine Run.nil ?_
    refine WP.seq (WP.region (l := [0, 1, 2, 3]) rfl ?_)
    refine Run.move rfl rfl rfl (.at rfl) ?_
    refine Run.move rfl rfl rfl (.at rfl) ?_
    refine Run.call rfl rfl rfl (.at rfl) (.cons (.at rfl) (.cons (.at rfl) .nil)) (c_szPointS 1000000 (by decide) (by omega)) ?_
    refine Run.assign rfl rfl rfl (.at rfl) ?_
    refine Run.nil ?_
    refine WP.seq ?_
    refine WP.seq (WP.region (l := [0, 1]) rfl ?_)
    refine Run.move rfl rfl rfl (.at rfl) ?_
    refine Run.int rfl rfl rfl (.at rfl) (.at rfl) rfl ?_
    refine Run.nil ?_
    refine WP.cond_f (.at rfl) (by rw [if_neg (by omega)]; simp; omega) ?_
    refine WP.skip ?_
    refine WP.seq (WP.region (l := [0, 1, 2, 3, 4, 5, 6, 7, 8]) rfl ?_)
    refine Run.move rfl rfl rfl (.at rfl) ?_
    refine Run.move rfl rfl rfl (.at rfl) ?_
    refine Run.acts [] [0] rfl rfl rfl (.at rfl) (.cons (.at rfl) (.cons (.at rfl) .nil)) (LendL.refl _ _) (c_toPointS 0 l false hn hl rfl) rfl rfl rfl (fun x H h => ?_) (fun x H h => ?_)
    · obtain ⟨b24, rfl, rfl⟩ := h; exact ⟨rfl, by first | rfl | simp [cleanH, cs3_cl] | simp [cleanH, ints_cl] | simp [cleanH, cs3_cl, ints_cl]⟩
    obtain ⟨b24, rfl, rfl⟩ := h
    refine Run.acts [] [] rfl rfl rfl (.at rfl) (.cons (.at rfl) (.cons (.at rfl) .nil)) (.cons .refl (.cons (lend rfl) .nil)) ((c_specDiagNo p l (by omega) hl h).acts) rfl rfl rfl (fun x H h => ?_) (fun x H h => ?_)
    · obtain ⟨rfl, rfl⟩ := h; exact ⟨rfl, by first | rfl | simp [cleanH, cs3_cl] | simp [cleanH, ints_cl] | simp [cleanH, cs3_cl, ints_cl]⟩
    obtain ⟨rfl, rfl⟩ := h
    refine Run.move rfl rfl rfl (.at rfl) ?_
    refine Run.extract rfl rfl rfl (.at rfl) rfl ?_
    refine Run.extract rfl rfl rfl (.at rfl) rfl ?_
    refine Run.assign rfl rfl rfl (.at rfl) ?_
    refine Run.assign rfl rfl rfl (.at rfl) ?_
    refine Run.nil ?_
    refine WP.seq (WP.region (l := [0, 1, 2]) rfl ?_)
    refine Run.move rfl rfl rfl (.at rfl) ?_
    refine Run.acts [] [1] rfl rfl rfl (.at rfl) (.cons (.at rfl) (.cons (.at rfl) .nil)) (LendL.refl _ _) (c_toPointS 1 l false hn hl rfl) rfl rfl rfl (fun x H h => ?_) (fun x H h => ?_)
    · obtain ⟨b29, rfl, rfl⟩ := h; exact ⟨rfl, by first | rfl | simp [cleanH, cs3_cl] | simp [cleanH, ints_cl] | simp [cleanH, cs3_cl, ints_cl]⟩
    obtain ⟨b29, rfl, rfl⟩ := h
    refine Run.assign rfl rfl rfl (.at rfl) ?_
    refine Run.nil ?_
    refine WP.seq (WP.region (l := [0, 1, 2, 3, 4, 5, 6, 7]) rfl ?_)
    refine Run.move rfl rfl rfl (.at rfl) ?_
    refine Run.move rfl rfl rfl (.at rfl) ?_
    refine Run.acts [] [] rfl rfl rfl (.at rfl) (.cons (.at rfl) (.cons (.at rfl) .nil)) (.cons .refl (.cons (lend rfl) .nil)) ((c_implDiagNo p l (by omega) hl h).acts) rfl rfl rfl (fun x H h => ?_) (fun x H h => ?_)
    · obtain ⟨rfl, rfl⟩ := h; exact ⟨rfl, by first | rfl | simp [cleanH, cs3_cl] | simp [cleanH, ints_cl] | simp [cleanH, cs3_cl, ints_cl]⟩
    obtain ⟨rfl, rfl⟩ := h
    refine Run.move rfl rfl rfl (.at rfl) ?_
    refine Run.extract rfl rfl rfl (.at rfl) rfl ?_
    refine Run.extract rfl rfl rfl (.at rfl) rfl ?_
    refine Run.assign rfl rfl rfl (.at rfl) ?_
    refine Run.assign rfl rfl rfl (.at rfl) ?_
    refine Run.nil ?_
    refine WP.seq ?_
    refine WP.trim (fr' := [(0, _), (1, _), (4, _), (6, _), (7, _), (8, _), (9, _), (10, _)]) (H' := [_, _, _, _, _, _, _]) ?_ ⟨rfl, rfl, rfl, rfl, rfl, rfl, rfl, rfl, trivial⟩ rfl
    refine WP.seq (WP.region (l := [0, 1, 2, 3, 4, 5, 6, 7, 8]) rfl ?_)
    refine Run.move rfl rfl rfl (.at rfl) ?_
    refine Run.move rfl rfl rfl (.at rfl) ?_
    refine Run.acts [] [] rfl rfl rfl (.at rfl) (.cons (.at rfl) (.cons (.at rfl) .nil)) (.cons .nil (.cons .nil .nil)) ((c_eqPointS [] [] (by decide) rfl rfl).acts) rfl rfl rfl (fun x H h => ?_) (fun x H h => ?_)
    · obtain ⟨rfl, rfl⟩ := h; exact ⟨rfl, by first | rfl | simp [cleanH, cs3_cl] | simp [cleanH, ints_cl] | simp [cleanH, cs3_cl, ints_cl]⟩
    obtain ⟨rfl, rfl⟩ := h
    refine Run.not rfl rfl rfl (.at rfl) ?_
    refine Run.move rfl rfl rfl (.at rfl) ?_
    refine' Run.guarded rfl rfl rfl rfl rfl rfl (fun ht => ?_) ?_
    rotate_left
    · skip
      refine Run.move rfl rfl rfl (.at rfl) ?_
      exact single_nil
    refine' Run.guarded rfl rfl rfl rfl rfl rfl (fun ht => ?_) ?_
    rotate_left
    · skip
      refine Run.move rfl rfl rfl (.at rfl) ?_
      exact single_nil
    refine' Run.guarded rfl rfl rfl rfl rfl rfl (fun ht => ?_) ?_
    rotate_left
    · skip
      refine Run.int rfl rfl rfl (.opt rfl ht) (.opt rfl ht) rfl ?_
      exact single_nil
    refine Run.or rfl rfl rfl (.at rfl) (.at rfl) rfl ?_
    refine Run.nil ?_
    refine WP.cond_f (.at rfl) (by simp) ?_
    refine WP.skip ?_
    refine WP.seq ?_
    refine WP.seq (WP.region (l := [0, 1, 2, 3, 4]) rfl ?_)
    refine Run.move rfl rfl rfl (.at rfl) ?_
    refine Run.move rfl rfl rfl (.at rfl) ?_
    refine Run.acts [] [2] rfl rfl rfl (.at rfl) (.cons (.at rfl) (.cons (.at rfl) .nil)) (LendL.refl _ _) (c_toPointS 2 l false hn hl rfl) rfl rfl rfl (fun x H h => ?_) (fun x H h => ?_)
    · obtain ⟨b47, rfl, rfl⟩ := h; exact ⟨rfl, by first | rfl | simp [cleanH, cs3_cl] | simp [cleanH, ints_cl] | simp [cleanH, cs3_cl, ints_cl]⟩
    obtain ⟨b47, rfl, rfl⟩ := h
    refine Run.acts [1, 2] [1, 2] rfl rfl rfl (.at rfl) (.cons (.at rfl) (.cons (.at rfl) .nil)) (LendL.refl _ _) (c_intactPointS 1 2 b29 b47 n (n + room n) (n + room n) false false (padP l) (padP l) hn hpl hpl (Nat.le_refl _) (Nat.le_refl _)) rfl rfl rfl (fun x H h => ?_) (fun x H h => ?_)
    · obtain ⟨rfl, rfl⟩ := h; exact ⟨rfl, by first | rfl | simp [cleanH, cs3_cl] | simp [cleanH, ints_cl] | simp [cleanH, cs3_cl, ints_cl]⟩
    obtain ⟨rfl, rfl⟩ := h
    refine Run.not rfl rfl rfl (.at rfl) ?_
    refine Run.nil ?_
    refine WP.cond_f (.at rfl) (by simp) ?_
    refine WP.skip ?_
    refine WP.seq (WP.region (l := [0]) rfl ?_)
    refine Run.assign rfl rfl rfl (.at rfl) ?_
    refine Run.nil ?_
    refine WP.seq (WP.region (l := [0, 1, 2, 3]) rfl ?_)
    refine Run.move rfl rfl rfl (.at rfl) ?_
    refine Run.move rfl rfl rfl (.at rfl) ?_
    refine Run.acts [1] [1] rfl rfl rfl (.at rfl) (.cons (.at rfl) (.cons (.at rfl) .nil)) (LendL.refl _ _) (c_markPointS 1 b29 n (n + room n) false (padP l) 101 (by decide) (by omega) (by omega)) rfl rfl rfl (fun x H h => ?_) (fun x H h => ?_)
    · obtain ⟨rfl, rfl⟩ := h; exact ⟨rfl, by first | rfl | simp [cleanH, cs3_cl] | simp [cleanH, ints_cl] | simp [cleanH, cs3_cl, ints_cl]⟩
    obtain ⟨rfl, rfl⟩ := h
    refine Run.assign rfl rfl rfl (.at rfl) ?_
    refine Run.nil ?_
    refine WP.seq ?_
    refine WP.trim (fr' := [(0, _), (1, _), (4, _), (6, _), (7, _), (9, _), (10, _), (11, _)]) (H' := [_, _, _, _, _, _, _]) ?_ ⟨rfl, rfl, rfl, rfl, rfl, rfl, rfl, rfl, trivial⟩ rfl
    refine WP.seq (WP.region (l := [0, 1, 2, 3, 4, 5, 6, 7, 8, 9, 10, 11, 12]) rfl ?_)
    refine Run.move rfl rfl rfl (.at rfl) ?_
    refine Run.int rfl rfl rfl (.at rfl) (.at rfl) rfl ?_
    refine Run.move rfl rfl rfl (.at rfl) ?_
    refine' Run.guarded rfl rfl rfl rfl rfl rfl (fun ht => ?_) ?_
    rotate_left
    · skip
      refine Run.move rfl rfl rfl (.at rfl) ?_
      exact single_nil
    refine' Run.guarded rfl rfl rfl rfl rfl rfl (fun ht => ?_) ?_
    rotate_left
    · skip
      refine Run.move rfl rfl rfl (.at rfl) ?_
      exact single_nil
    refine' Run.guarded rfl rfl rfl rfl rfl rfl (fun ht => ?_) ?_
    rotate_left
    · skip
      refine Run.acts [] [] rfl rfl rfl (.at rfl) (.cons (.opt rfl ht) (.cons (.opt rfl ht) .nil)) (.cons .nil (.cons .nil .nil)) ((c_eqPointS [] [] (by decide) rfl rfl).acts) rfl rfl rfl (fun x H h => ?_) (fun x H h => ?_)
      · obtain ⟨rfl, rfl⟩ := h; exact ⟨rfl, by first | rfl | simp [cleanH, cs3_cl] | simp [cleanH, ints_cl] | simp [cleanH, cs3_cl, ints_cl]⟩
      obtain ⟨rfl, rfl⟩ := h
      exact single_nil
    refine' Run.guarded rfl rfl rfl rfl rfl rfl (fun ht => ?_) ?_
    rotate_left
    · skip
      refine Run.not rfl rfl rfl (.opt rfl ht) ?_
      exact single_nil
    refine Run.or rfl rfl rfl (.at rfl) (.at rfl) rfl ?_
    refine Run.move rfl rfl rfl (.at rfl) ?_
    refine' Run.guarded rfl rfl rfl rfl rfl rfl (fun ht => ?_) ?_
    rotate_left
    · skip
      refine Run.move rfl rfl rfl (.at rfl) ?_
      exact single_nil
    refine' Run.guarded rfl rfl rfl rfl rfl rfl (fun ht => ?_) ?_
    rotate_left
    · skip
      refine Run.move rfl rfl rfl (.at rfl) ?_
      exact single_nil
    refine' Run.guarded rfl rfl rfl rfl rfl rfl (fun ht => ?_) ?_
    rotate_left
    · skip
      refine Run.int rfl rfl rfl (.opt rfl ht) (.opt rfl ht) rfl ?_
      exact single_nil
    refine Run.or rfl rfl rfl (.at rfl) (.at rfl) rfl ?_
    refine Run.nil ?_
    refine WP.cond_f (.at rfl) (by simp; omega) ?_
    refine WP.skip ?_
    refine WP.seq (WP.region (l := [0]) rfl ?_)
    refine Run.assign rfl rfl rfl (.at rfl) ?_
    refine Run.nil ?_
    refine WP.seq (WP.region (l := [0, 1, 2, 3]) rfl ?_)
    refine Run.move rfl rfl rfl (.at rfl) ?_
    refine Run.move rfl rfl rfl (.at rfl) ?_
    refine Run.call rfl rfl rfl (.at rfl) (.cons (.at rfl) (.cons (.at rfl) .nil)) (c_markPointS_nil 101) ?_
    refine Run.assign rfl rfl rfl (.at rfl) ?_
    refine Run.nil ?_
    refine WP.trim (fr' := [(0, _), (1, _), (4, _), (6, _), (7, _), (9, _), (12, _)]) (H' := [_, _, _, _, _, _, _]) ?_ ⟨rfl, rfl, rfl, rfl, rfl, rfl, rfl, trivial⟩ rfl
    refine WP.seq (WP.region (l := [0]) rfl ?_)
    refine Run.assign rfl rfl rfl (.at rfl) ?_
    refine Run.nil ?_
    refine WP.seq (WP.region (l := [0, 1, 2, 3]) rfl ?_)
    refine Run.move rfl rfl rfl (.at rfl) ?_
    refine Run.move rfl rfl rfl (.at rfl) ?_
    refine Run.acts [] [] rfl rfl rfl (.at rfl) (.cons (.at rfl) (.cons (.at rfl) .nil)) (.cons .nil (.cons .refl .nil)) ((c_heldPointS [] 101 (by decide) (by decide) rfl (fun i h => by cases h)).acts) rfl rfl rfl (fun x H h => ?_) (fun x H h => ?_)
    · obtain ⟨rfl, rfl⟩ := h; exact ⟨rfl, by first | rfl | simp [cleanH, cs3_cl] | simp [cleanH, ints_cl] | simp [cleanH, cs3_cl, ints_cl]⟩
    obtain ⟨rfl, rfl⟩ := h
    refine Run.assign rfl rfl rfl (.at rfl) ?_
    refine Run.nil ?_
    refine WP.seq ?_
    refine WP.seq (WP.region (l := [0, 1]) rfl ?_)
    refine Run.move rfl rfl rfl (.at rfl) ?_
    refine Run.int rfl rfl rfl (.at rfl) (.at rfl) rfl ?_
    refine Run.nil ?_
    refine WP.cond_f (.at rfl) rfl ?_
    refine WP.skip ?_
    refine WP.seq ?_
    refine WP.seq (WP.region (l := [0, 1, 2]) rfl ?_)
    refine Run.move rfl rfl rfl (.at rfl) ?_
    refine Run.move rfl rfl rfl (.at rfl) ?_
    refine Run.int rfl rfl rfl (.at rfl) (.at rfl) rfl ?_
    refine Run.nil ?_
    refine WP.cond_f (.at rfl) rfl ?_
    refine WP.skip ?_
    refine WP.seq (WP.region (l := [0, 1, 2, 3, 4, 5, 6, 7, 8]) rfl ?_)
    refine Run.move rfl rfl rfl (.at rfl) ?_
    refine Run.move rfl rfl rfl (.at rfl) ?_
    refine Run.acts [] [3] rfl rfl rfl (.at rfl) (.cons (.at rfl) (.cons (.at rfl) .nil)) (LendL.refl _ _) (c_toPointS 3 l true hn hl (by simp [h0])) rfl rfl rfl (fun x H h => ?_) (fun x H h => ?_)
    · obtain ⟨b80, rfl, rfl⟩ := h; exact ⟨rfl, by first | rfl | simp [cleanH, cs3_cl] | simp [cleanH, ints_cl] | simp [cleanH, cs3_cl, ints_cl]⟩
    obtain ⟨b80, rfl, rfl⟩ := h
    refine Run.acts [] [] rfl rfl rfl (.at rfl) (.cons (.at rfl) (.cons (.at rfl) .nil)) (.cons .refl (.cons (lend rfl) .nil)) ((c_implDiagNo p l (by omega) hl h).acts) rfl rfl rfl (fun x H h => ?_) (fun x H h => ?_)
    · obtain ⟨rfl, rfl⟩ := h; exact ⟨rfl, by first | rfl | simp [cleanH, cs3_cl] | simp [cleanH, ints_cl] | simp [cleanH, cs3_cl, ints_cl]⟩
    obtain ⟨rfl, rfl⟩ := h
    refine Run.move rfl rfl rfl (.at rfl) ?_
    refine Run.extract rfl rfl rfl (.at rfl) rfl ?_
    refine Run.extract rfl rfl rfl (.at rfl) rfl ?_
    refine Run.assign rfl rfl rfl (.at rfl) ?_
    refine Run.assign rfl rfl rfl (.at rfl) ?_
    refine Run.nil ?_
    refine WP.seq ?_
    refine WP.trim (fr' := [(4, _), (6, _), (7, _), (9, _), (12, _), (13, _), (14, _), (15, _)]) (H' := [_, _, _, _, _, _, _]) ?_ ⟨rfl, rfl, rfl, rfl, rfl, rfl, rfl, rfl, trivial⟩ rfl
    refine WP.seq (WP.region (l := [0, 1, 2, 3, 4, 5, 6, 7, 8]) rfl ?_)
    refine Run.move rfl rfl rfl (.at rfl) ?_
    refine Run.move rfl rfl rfl (.at rfl) ?_
    refine Run.acts [] [] rfl rfl rfl (.at rfl) (.cons (.at rfl) (.cons (.at rfl) .nil)) (.cons .nil (.cons .nil .nil)) ((c_eqPointS [] [] (by decide) rfl rfl).acts) rfl rfl rfl (fun x H h => ?_) (fun x H h => ?_)
    · obtain ⟨rfl, rfl⟩ := h; exact ⟨rfl, by first | rfl | simp [cleanH, cs3_cl] | simp [cleanH, ints_cl] | simp [cleanH, cs3_cl, ints_cl]⟩
    obtain ⟨rfl, rfl⟩ := h
    refine Run.not rfl rfl rfl (.at rfl) ?_
    refine Run.move rfl rfl rfl (.at rfl) ?_
    refine' Run.guarded rfl rfl rfl rfl rfl rfl (fun ht => ?_) ?_
    rotate_left
    · skip
      refine Run.move rfl rfl rfl (.at rfl) ?_
      exact single_nil
    refine' Run.guarded rfl rfl rfl rfl rfl rfl (fun ht => ?_) ?_
    rotate_left
    · skip
      refine Run.move rfl rfl rfl (.at rfl) ?_
      exact single_nil
    refine' Run.guarded rfl rfl rfl rfl rfl rfl (fun ht => ?_) ?_
    rotate_left
    · skip
      refine Run.int rfl rfl rfl (.opt rfl ht) (.opt rfl ht) rfl ?_
      exact single_nil
    refine Run.or rfl rfl rfl (.at rfl) (.at rfl) rfl ?_
    refine Run.nil ?_
    refine WP.cond_f (.at rfl) (by simp) ?_
    refine WP.skip ?_
    refine WP.seq (WP.region (l := [0]) rfl ?_)
    refine Run.assign rfl rfl rfl (.at rfl) ?_
    refine Run.nil ?_
    refine WP.seq (WP.region (l := [0, 1, 2, 3]) rfl ?_)
    refine Run.move rfl rfl rfl (.at rfl) ?_
    refine Run.move rfl rfl rfl (.at rfl) ?_
    refine Run.acts [] [] rfl rfl rfl (.at rfl) (.cons (.at rfl) (.cons (.at rfl) .nil)) (.cons .nil (.cons .refl .nil)) ((c_heldPointS [] 101 (by decide) (by decide) rfl (fun i h => by cases h)).acts) rfl rfl rfl (fun x H h => ?_) (fun x H h => ?_)
    · obtain ⟨rfl, rfl⟩ := h; exact ⟨rfl, by first | rfl | simp [cleanH, cs3_cl] | simp [cleanH, ints_cl] | simp [cleanH, cs3_cl, ints_cl]⟩
    obtain ⟨rfl, rfl⟩ := h
    refine Run.assign rfl rfl rfl (.at rfl) ?_
    refine Run.nil ?_
    refine WP.seq ?_
    refine WP.seq (WP.region (l := [0, 1]) rfl ?_)
    refine Run.move rfl rfl rfl (.at rfl) ?_
    refine Run.int rfl rfl rfl (.at rfl) (.at rfl) rfl ?_
    refine Run.nil ?_
    refine WP.cond_f (.at rfl) rfl ?_
    refine WP.skip ?_
    refine WP.seq ?_
    refine WP.seq (WP.region (l := [0, 1, 2]) rfl ?_)
    refine Run.move rfl rfl rfl (.at rfl) ?_
    refine Run.move rfl rfl rfl (.at rfl) ?_
    refine Run.int rfl rfl rfl (.at rfl) (.at rfl) rfl ?_
    refine Run.nil ?_
    refine WP.cond_f (.at rfl) rfl ?_
    refine WP.skip ?_
    refine WP.trim (fr' := [(4, _)]) (H' := [_, _, _, _, _, _, _]) ?_ ⟨rfl, trivial⟩ rfl
    refine WP.seq (WP.region (l := [0]) rfl ?_)
    refine Run.assign rfl rfl rfl (.at rfl) ?_
    refine Run.nil ?_
    refine WP.ret ?_
    exact Ends.pure (.tmp rfl .nil) rfl
theorem c_diagLaw2 (p : Int) (a b c d : V3) (h : diagErr p [a, b, c, d] = 0) : Pure Try.prog 3 [.int .i64 p, .imm (cs3 [a, b, c, d]) 4] (.bool true) := by
  have hrm := room_le 4
  have hpl := padP_length [a, b, c, d] (n := 4) rfl
  have lend : ∀ {H : List Ar} {id b' : Nat}, H[id]? = some [(b', cs3 (padP [a, b, c, d]))] → Lend H (.own id b' 3 0 4 (4 + room 4) false) (.imm (cs3 [a, b, c, d]) 4) := fun h => Lend.one h (by omega) (padP_take _)
  have lend3 : ∀ {H : List Ar} {id b' : Nat} {L : List V3}, L.length = 3 → H[id]? = some [(b', cs3 L)] → Lend H (.own id b' 3 0 3 3 true) (.imm (cs3 L) 3) := fun hL h => Lend.one h (by omega) (by rw [List.drop_zero, List.take_length])
  have hdl : (diag4 p a b c d).length = 3 := rfl
  have hml : (markTo (diag4 p a b c d) 101 3).length = 3 := by rw [markTo_length]; rfl
  have hheld := c_heldPointS (markTo (diag4 p a b c d) 101 3) 101 (by decide) (by decide) hml (fun i h => markTo_getD (by rw [hdl]; exact h) h)
  refine Pure.body 7 (n := 101) (fn := Try.f3) (c := Try.f3.body.get!) fn_3 rfl nm_3 rfl rfl fun C => ?_
  refine WP.seq (WP.region (l := [0]) rfl ?_)
  refine Run.assign rfl rfl rfl (.at rfl) ?_
  refine Run.nil ?_
  refine WP.seq (WP.region (l := [0]) rfl ?_)
  refine Run.assign rfl rfl rfl (.at rfl) ?_
  refine Run.nil ?_
  refine WP.seq (WP.region (l := [0, 1, 2, 3]) rfl ?_)
  refine Run.move rfl rfl rfl (.at rfl) ?_
  refine Run.move rfl rfl rfl (.at rfl) ?_
  refine Run.call rfl rfl rfl (.at rfl) (.cons (.at rfl) (.cons (.at rfl) .nil)) (c_szPointS 1000000 (by decide) (by omega)) ?_
  refine Run.assign rfl rfl rfl (.at rfl) ?_
  refine Run.nil ?_
  refine WP.seq ?_
  refine WP.seq (WP.region (l := [0, 1]) rfl ?_)
  refine Run.move rfl rfl rfl (.at rfl) ?_
  refine Run.int rfl rfl rfl (.at rfl) (.at rfl) rfl ?_
  refine Run.nil ?_
  refine WP.cond_f (.at rfl) (by decide) ?_
  refine WP.skip ?_
  refine WP.seq (WP.region (l := [0, 1, 2, 3, 4, 5, 6, 7, 8]) rfl ?_)
  refine Run.move rfl rfl rfl (.at rfl) ?_
  refine Run.move rfl rfl rfl (.at rfl) ?_
  refine Run.acts [] [0] rfl rfl rfl (.at rfl) (.cons (.at rfl) (.cons (.at rfl) .nil)) (LendL.refl _ _) (c_toPointS 0 [a, b, c, d] false (n := 4) (by decide) rfl rfl) rfl rfl rfl (fun x H h => ?_) (fun x H h => ?_)
  · obtain ⟨b24, rfl, rfl⟩ := h; exact ⟨rfl, by first | rfl | simp [cleanH, cs3_cl] | simp [cleanH, ints_cl] | simp [cleanH, cs3_cl, ints_cl]⟩
  obtain ⟨b24, rfl, rfl⟩ := h
  refine Run.acts [] [4] rfl rfl rfl (.at rfl) (.cons (.at rfl) (.cons (.at rfl) .nil)) (.cons .refl (.cons (lend rfl) .nil)) (c_specDiag 4 p a b c d h) rfl rfl rfl (fun x H h => ?_) (fun x H h => ?_)
  · obtain ⟨b25, rfl, rfl⟩ := h; exact ⟨rfl, by first | rfl | simp [cleanH, cs3_cl] | simp [cleanH, ints_cl] | simp [cleanH, cs3_cl, ints_cl]⟩
  obtain ⟨b25, rfl, rfl⟩ := h
  refine Run.move rfl rfl rfl (.at rfl) ?_
  refine Run.extract rfl rfl rfl (.at rfl) rfl ?_
  refine Run.extract rfl rfl rfl (.at rfl) rfl ?_
  refine Run.assign rfl rfl rfl (.at rfl) ?_
  refine Run.assign rfl rfl rfl (.at rfl) ?_
  refine Run.nil ?_
  refine WP.seq (WP.region (l := [0, 1, 2]) rfl ?_)
  refine Run.move rfl rfl rfl (.at rfl) ?_
  refine Run.acts [] [1] rfl rfl rfl (.at rfl) (.cons (.at rfl) (.cons (.at rfl) .nil)) (LendL.refl _ _) (c_toPointS 1 [a, b, c, d] false (n := 4) (by decide) rfl rfl) rfl rfl rfl (fun x H h => ?_) (fun x H h => ?_)
  · obtain ⟨b29, rfl, rfl⟩ := h; exact ⟨rfl, by first | rfl | simp [cleanH, cs3_cl] | simp [cleanH, ints_cl] | simp [cleanH, cs3_cl, ints_cl]⟩
  obtain ⟨b29, rfl, rfl⟩ := h
  refine Run.assign rfl rfl rfl (.at rfl) ?_
  refine Run.nil ?_
  refine WP.seq (WP.region (l := [0, 1, 2, 3, 4, 5, 6, 7]) rfl ?_)
  refine Run.move rfl rfl rfl (.at rfl) ?_
  refine Run.move rfl rfl rfl (.at rfl) ?_
  refine Run.acts [] [5] rfl rfl rfl (.at rfl) (.cons (.at rfl) (.cons (.at rfl) .nil)) (.cons .refl (.cons (lend rfl) .nil)) (c_implDiag 5 p a b c d h) rfl rfl rfl (fun x H h => ?_) (fun x H h => ?_)
  · obtain ⟨b33, rfl, rfl⟩ := h; exact ⟨rfl, by first | rfl | simp [cleanH, cs3_cl] | simp [cleanH, ints_cl] | simp [cleanH, cs3_cl, ints_cl]⟩
  obtain ⟨b33, rfl, rfl⟩ := h
  refine Run.move rfl rfl rfl (.at rfl) ?_
  refine Run.extract rfl rfl rfl (.at rfl) rfl ?_
  refine Run.extract rfl rfl rfl (.at rfl) rfl ?_
  refine Run.assign rfl rfl rfl (.at rfl) ?_
  refine Run.assign rfl rfl rfl (.at rfl) ?_
  refine Run.nil ?_
  refine WP.seq ?_
  refine WP.trim (fr' := [(0, _), (1, _), (4, _), (6, _), (7, _), (8, _), (9, _), (10, _)]) (H' := [_, _, _, _, _, _, _]) ?_ ⟨rfl, rfl, rfl, rfl, rfl, rfl, rfl, rfl, trivial⟩ rfl
  refine WP.seq (WP.region (l := [0, 1, 2, 3, 4, 5, 6, 7, 8]) rfl ?_)
  refine Run.move rfl rfl rfl (.at rfl) ?_
  refine Run.move rfl rfl rfl (.at rfl) ?_
  refine Run.acts [] [] rfl rfl rfl (.at rfl) (.cons (.at rfl) (.cons (.at rfl) .nil)) (.cons (lend3 hdl rfl) (.cons (lend3 hdl rfl) .nil)) ((c_eqPointS (diag4 p a b c d) (diag4 p a b c d) (by decide) hdl hdl).acts) rfl rfl rfl (fun x H h => ?_) (fun x H h => ?_)
  · obtain ⟨rfl, rfl⟩ := h; exact ⟨rfl, by first | rfl | simp [cleanH, cs3_cl] | simp [cleanH, ints_cl] | simp [cleanH, cs3_cl, ints_cl]⟩
  obtain ⟨rfl, rfl⟩ := h
  refine Run.not rfl rfl rfl (.at rfl) ?_
  refine Run.move rfl rfl rfl (.at rfl) ?_
  refine' Run.guarded rfl rfl rfl rfl rfl rfl (fun ht => ?_) ?_
  rotate_left
  · skip
    refine Run.move rfl rfl rfl (.at rfl) ?_
    exact single_nil
  refine' Run.guarded rfl rfl rfl rfl rfl rfl (fun ht => ?_) ?_
  rotate_left
  · skip
    refine Run.move rfl rfl rfl (.at rfl) ?_
    exact single_nil
  refine' Run.guarded rfl rfl rfl rfl rfl rfl (fun ht => ?_) ?_
  rotate_left
  · skip
    refine Run.int rfl rfl rfl (.opt rfl ht) (.opt rfl ht) rfl ?_
    exact single_nil
  refine Run.or rfl rfl rfl (.at rfl) (.at rfl) rfl ?_
  refine Run.nil ?_
  refine WP.cond_f (.at rfl) (by simp) ?_
  refine WP.skip ?_
  refine WP.seq ?_
  refine WP.seq (WP.region (l := [0, 1, 2, 3, 4]) rfl ?_)
  refine Run.move rfl rfl rfl (.at rfl) ?_
  refine Run.move rfl rfl rfl (.at rfl) ?_
  refine Run.acts [] [2] rfl rfl rfl (.at rfl) (.cons (.at rfl) (.cons (.at rfl) .nil)) (LendL.refl _ _) (c_toPointS 2 [a, b, c, d] false (n := 4) (by decide) rfl rfl) rfl rfl rfl (fun x H h => ?_) (fun x H h => ?_)
  · obtain ⟨b47, rfl, rfl⟩ := h; exact ⟨rfl, by first | rfl | simp [cleanH, cs3_cl] | simp [cleanH, ints_cl] | simp [cleanH, cs3_cl, ints_cl]⟩
  obtain ⟨b47, rfl, rfl⟩ := h
  refine Run.acts [1, 2] [1, 2] rfl rfl rfl (.at rfl) (.cons (.at rfl) (.cons (.at rfl) .nil)) (LendL.refl _ _) (c_intactPointS 1 2 b29 b47 4 (4 + room 4) (4 + room 4) false false (padP [a, b, c, d]) (padP [a, b, c, d]) (by decide) hpl hpl (Nat.le_refl _) (Nat.le_refl _)) rfl rfl rfl (fun x H h => ?_) (fun x H h => ?_)
  · obtain ⟨rfl, rfl⟩ := h; exact ⟨rfl, by first | rfl | simp [cleanH, cs3_cl] | simp [cleanH, ints_cl] | simp [cleanH, cs3_cl, ints_cl]⟩
  obtain ⟨rfl, rfl⟩ := h
  refine Run.not rfl rfl rfl (.at rfl) ?_
  refine Run.nil ?_
  refine WP.cond_f (.at rfl) (by simp) ?_
  refine WP.skip ?_
  refine WP.seq (WP.region (l := [0]) rfl ?_)
  refine Run.assign rfl rfl rfl (.at rfl) ?_
  refine Run.nil ?_
  refine WP.seq (WP.region (l := [0, 1, 2, 3]) rfl ?_)
  refine Run.move rfl rfl rfl (.at rfl) ?_
  refine Run.move rfl rfl rfl (.at rfl) ?_
  refine Run.acts [1] [1] rfl rfl rfl (.at rfl) (.cons (.at rfl) (.cons (.at rfl) .nil)) (LendL.refl _ _) (c_markPointS 1 b29 4 (4 + room 4) false (padP [a, b, c, d]) 101 (by decide) (by omega) (by omega)) rfl rfl rfl (fun x H h => ?_) (fun x H h => ?_)
  · obtain ⟨rfl, rfl⟩ := h; exact ⟨rfl, by first | rfl | simp [cleanH, cs3_cl] | simp [cleanH, ints_cl] | simp [cleanH, cs3_cl, ints_cl]⟩
  obtain ⟨rfl, rfl⟩ := h
  refine Run.assign rfl rfl rfl (.at rfl) ?_
  refine Run.nil ?_
  refine WP.seq ?_
  refine WP.trim (fr' := [(0, _), (1, _), (4, _), (6, _), (7, _), (9, _), (10, _), (11, _)]) (H' := [_, _, _, _, _, _, _]) ?_ ⟨rfl, rfl, rfl, rfl, rfl, rfl, rfl, rfl, trivial⟩ rfl
  refine WP.seq (WP.region (l := [0, 1, 2, 3, 4, 5, 6, 7, 8, 9, 10, 11, 12]) rfl ?_)
  refine Run.move rfl rfl rfl (.at rfl) ?_
  refine Run.int rfl rfl rfl (.at rfl) (.at rfl) rfl ?_
  refine Run.move rfl rfl rfl (.at rfl) ?_
  refine' Run.guarded rfl rfl rfl rfl rfl rfl (fun ht => ?_) ?_
  rotate_left
  · skip
    refine Run.move rfl rfl rfl (.at rfl) ?_
    exact single_nil
  refine' Run.guarded rfl rfl rfl rfl rfl rfl (fun ht => ?_) ?_
  rotate_left
  · skip
    refine Run.move rfl rfl rfl (.at rfl) ?_
    exact single_nil
  refine' Run.guarded rfl rfl rfl rfl rfl rfl (fun ht => ?_) ?_
  rotate_left
  · skip
    refine Run.acts [] [] rfl rfl rfl (.at rfl) (.cons (.opt rfl ht) (.cons (.opt rfl ht) .nil)) (.cons (lend3 hdl rfl) (.cons (lend3 hdl rfl) .nil)) ((c_eqPointS (diag4 p a b c d) (diag4 p a b c d) (by decide) hdl hdl).acts) rfl rfl rfl (fun x H h => ?_) (fun x H h => ?_)
    · obtain ⟨rfl, rfl⟩ := h; exact ⟨rfl, by first | rfl | simp [cleanH, cs3_cl] | simp [cleanH, ints_cl] | simp [cleanH, cs3_cl, ints_cl]⟩
    obtain ⟨rfl, rfl⟩ := h
    exact single_nil
  refine' Run.guarded rfl rfl rfl rfl rfl rfl (fun ht => ?_) ?_
  rotate_left
  · skip
    refine Run.not rfl rfl rfl (.opt rfl ht) ?_
    exact single_nil
  refine Run.or rfl rfl rfl (.at rfl) (.at rfl) rfl ?_
  refine Run.move rfl rfl rfl (.at rfl) ?_
  refine' Run.guarded rfl rfl rfl rfl rfl rfl (fun ht => ?_) ?_
  rotate_left
  · skip
    refine Run.move rfl rfl rfl (.at rfl) ?_
    exact single_nil
  refine' Run.guarded rfl rfl rfl rfl rfl rfl (fun ht => ?_) ?_
  rotate_left
  · skip
    refine Run.move rfl rfl rfl (.at rfl) ?_
    exact single_nil
  refine' Run.guarded rfl rfl rfl rfl rfl rfl (fun ht => ?_) ?_
  rotate_left
  · skip
    refine Run.int rfl rfl rfl (.opt rfl ht) (.opt rfl ht) rfl ?_
    exact single_nil
  refine Run.or rfl rfl rfl (.at rfl) (.at rfl) rfl ?_
  refine Run.nil ?_
  refine WP.cond_f (.at rfl) (by simp) ?_
  refine WP.skip ?_
  refine WP.seq (WP.region (l := [0]) rfl ?_)
  refine Run.assign rfl rfl rfl (.at rfl) ?_
  refine Run.nil ?_
  refine WP.seq (WP.region (l := [0, 1, 2, 3]) rfl ?_)
  refine Run.move rfl rfl rfl (.at rfl) ?_
  refine Run.move rfl rfl rfl (.at rfl) ?_
  refine Run.acts [5] [5] rfl rfl rfl (.at rfl) (.cons (.at rfl) (.cons (.at rfl) .nil)) (LendL.refl _ _) (c_markPointS 5 b33 3 3 true (diag4 p a b c d) 101 (by decide) (by decide) (by rw [hdl]; decide)) rfl rfl rfl (fun x H h => ?_) (fun x H h => ?_)
  · obtain ⟨rfl, rfl⟩ := h; exact ⟨rfl, by first | rfl | simp [cleanH, cs3_cl] | simp [cleanH, ints_cl] | simp [cleanH, cs3_cl, ints_cl]⟩
  obtain ⟨rfl, rfl⟩ := h
  refine Run.assign rfl rfl rfl (.at rfl) ?_
  refine Run.nil ?_
  refine WP.trim (fr' := [(0, _), (1, _), (4, _), (6, _), (7, _), (9, _), (12, _)]) (H' := [_, _, _, _, _, _, _]) ?_ ⟨rfl, rfl, rfl, rfl, rfl, rfl, rfl, trivial⟩ rfl
  refine WP.seq (WP.region (l := [0]) rfl ?_)
  refine Run.assign rfl rfl rfl (.at rfl) ?_
  refine Run.nil ?_
  refine WP.seq (WP.region (l := [0, 1, 2, 3]) rfl ?_)
  refine Run.move rfl rfl rfl (.at rfl) ?_
  refine Run.move rfl rfl rfl (.at rfl) ?_
  refine Run.acts [] [] rfl rfl rfl (.at rfl) (.cons (.at rfl) (.cons (.at rfl) .nil)) (.cons (lend3 hml rfl) (.cons .refl .nil)) (hheld.acts) rfl rfl rfl (fun x H h => ?_) (fun x H h => ?_)
  · obtain ⟨rfl, rfl⟩ := h; exact ⟨rfl, by first | rfl | simp [cleanH, cs3_cl] | simp [cleanH, ints_cl] | simp [cleanH, cs3_cl, ints_cl]⟩
  obtain ⟨rfl, rfl⟩ := h
  refine Run.assign rfl rfl rfl (.at rfl) ?_
  refine Run.nil ?_
  refine WP.seq ?_
  refine WP.seq (WP.region (l := [0, 1]) rfl ?_)
  refine Run.move rfl rfl rfl (.at rfl) ?_
  refine Run.int rfl rfl rfl (.at rfl) (.at rfl) rfl ?_
  refine Run.nil ?_
  refine WP.cond_f (.at rfl) (by decide) ?_
  refine WP.skip ?_
  refine WP.seq ?_
  refine WP.seq (WP.region (l := [0, 1, 2]) rfl ?_)
  refine Run.move rfl rfl rfl (.at rfl) ?_
  refine Run.move rfl rfl rfl (.at rfl) ?_
  refine Run.int rfl rfl rfl (.at rfl) (.at rfl) rfl ?_
  refine Run.nil ?_
  refine WP.cond_f (.at rfl) (by decide) ?_
  refine WP.skip ?_
  refine WP.seq (WP.region (l := [0, 1, 2, 3, 4, 5, 6, 7, 8]) rfl ?_)
  refine Run.move rfl rfl rfl (.at rfl) ?_
  refine Run.move rfl rfl rfl (.at rfl) ?_
  refine Run.acts [] [3] rfl rfl rfl (.at rfl) (.cons (.at rfl) (.cons (.at rfl) .nil)) (LendL.refl _ _) (c_toPointS 3 [a, b, c, d] true (n := 4) (by decide) rfl rfl) rfl rfl rfl (fun x H h => ?_) (fun x H h => ?_)
  · obtain ⟨b80, rfl, rfl⟩ := h; exact ⟨rfl, by first | rfl | simp [cleanH, cs3_cl] | simp [cleanH, ints_cl] | simp [cleanH, cs3_cl, ints_cl]⟩
  obtain ⟨b80, rfl, rfl⟩ := h
  refine Run.acts [] [6] rfl rfl rfl (.at rfl) (.cons (.at rfl) (.cons (.at rfl) .nil)) (.cons .refl (.cons (lend rfl) .nil)) (c_implDiag 6 p a b c d h) rfl rfl rfl (fun x H h => ?_) (fun x H h => ?_)
  · obtain ⟨b81, rfl, rfl⟩ := h; exact ⟨rfl, by first | rfl | simp [cleanH, cs3_cl] | simp [cleanH, ints_cl] | simp [cleanH, cs3_cl, ints_cl]⟩
  obtain ⟨b81, rfl, rfl⟩ := h
  refine Run.move rfl rfl rfl (.at rfl) ?_
  refine Run.extract rfl rfl rfl (.at rfl) rfl ?_
  refine Run.extract rfl rfl rfl (.at rfl) rfl ?_
  refine Run.assign rfl rfl rfl (.at rfl) ?_
  refine Run.assign rfl rfl rfl (.at rfl) ?_
  refine Run.nil ?_
  refine WP.seq ?_
  refine WP.trim (fr' := [(4, _), (6, _), (7, _), (9, _), (12, _), (13, _), (14, _), (15, _)]) (H' := [_, _, _, _, _, _, _]) ?_ ⟨rfl, rfl, rfl, rfl, rfl, rfl, rfl, rfl, trivial⟩ rfl
  refine WP.seq (WP.region (l := [0, 1, 2, 3, 4, 5, 6, 7, 8]) rfl ?_)
  refine Run.move rfl rfl rfl (.at rfl) ?_
  refine Run.move rfl rfl rfl (.at rfl) ?_
  refine Run.acts [] [] rfl rfl rfl (.at rfl) (.cons (.at rfl) (.cons (.at rfl) .nil)) (.cons (lend3 hdl rfl) (.cons (lend3 hdl rfl) .nil)) ((c_eqPointS (diag4 p a b c d) (diag4 p a b c d) (by decide) hdl hdl).acts) rfl rfl rfl (fun x H h => ?_) (fun x H h => ?_)
  · obtain ⟨rfl, rfl⟩ := h; exact ⟨rfl, by first | rfl | simp [cleanH, cs3_cl] | simp [cleanH, ints_cl] | simp [cleanH, cs3_cl, ints_cl]⟩
  obtain ⟨rfl, rfl⟩ := h
  refine Run.not rfl rfl rfl (.at rfl) ?_
  refine Run.move rfl rfl rfl (.at rfl) ?_
  refine' Run.guarded rfl rfl rfl rfl rfl rfl (fun ht => ?_) ?_
  rotate_left
  · skip
    refine Run.move rfl rfl rfl (.at rfl) ?_
    exact single_nil
  refine' Run.guarded rfl rfl rfl rfl rfl rfl (fun ht => ?_) ?_
  rotate_left
  · skip
    refine Run.move rfl rfl rfl (.at rfl) ?_
    exact single_nil
  refine' Run.guarded rfl rfl rfl rfl rfl rfl (fun ht => ?_) ?_
  rotate_left
  · skip
    refine Run.int rfl rfl rfl (.opt rfl ht) (.opt rfl ht) rfl ?_
    exact single_nil
  refine Run.or rfl rfl rfl (.at rfl) (.at rfl) rfl ?_
  refine Run.nil ?_
  refine WP.cond_f (.at rfl) (by simp) ?_
  refine WP.skip ?_
  refine WP.seq (WP.region (l := [0]) rfl ?_)
  refine Run.assign rfl rfl rfl (.at rfl) ?_
  refine Run.nil ?_
  refine WP.seq (WP.region (l := [0, 1, 2, 3]) rfl ?_)
  refine Run.move rfl rfl rfl (.at rfl) ?_
  refine Run.move rfl rfl rfl (.at rfl) ?_
  refine Run.acts [] [] rfl rfl rfl (.at rfl) (.cons (.at rfl) (.cons (.at rfl) .nil)) (.cons (lend3 hml rfl) (.cons .refl .nil)) (hheld.acts) rfl rfl rfl (fun x H h => ?_) (fun x H h => ?_)
  · obtain ⟨rfl, rfl⟩ := h; exact ⟨rfl, by first | rfl | simp [cleanH, cs3_cl] | simp [cleanH, ints_cl] | simp [cleanH, cs3_cl, ints_cl]⟩
  obtain ⟨rfl, rfl⟩ := h
  refine Run.assign rfl rfl rfl (.at rfl) ?_
  refine Run.nil ?_
  refine WP.seq ?_
  refine WP.seq (WP.region (l := [0, 1]) rfl ?_)
  refine Run.move rfl rfl rfl (.at rfl) ?_
  refine Run.int rfl rfl rfl (.at rfl) (.at rfl) rfl ?_
  refine Run.nil ?_
  refine WP.cond_f (.at rfl) (by decide) ?_
  refine WP.skip ?_
  refine WP.seq ?_
  refine WP.seq (WP.region (l := [0, 1, 2]) rfl ?_)
  refine Run.move rfl rfl rfl (.at rfl) ?_
  refine Run.move rfl rfl rfl (.at rfl) ?_
  refine Run.int rfl rfl rfl (.at rfl) (.at rfl) rfl ?_
  refine Run.nil ?_
  refine WP.cond_f (.at rfl) (by decide) ?_
  refine WP.skip ?_
  refine WP.trim (fr' := [(4, _)]) (H' := [_, _, _, _, _, _, _]) ?_ ⟨rfl, trivial⟩ rfl
  refine WP.seq (WP.region (l := [0]) rfl ?_)
  refine Run.assign rfl rfl rfl (.at rfl) ?_
  refine Run.nil ?_
  refine WP.ret ?_
  exact Ends.pure (.tmp rfl .nil) rfl
theorem c_diagLaw (p : Int) (l : List V3) {n : Nat} (hl : l.length = n) (hn : n ≤ 9223372036854775807) : Pure Try.prog 3 [.int .i64 p, .imm (cs3 l) n] (.bool true) := by
  by_cases h : 1000000 < n
  · exact c_diagLaw0 p l hl hn h
  · by_cases h0 : diagErr p l = 0
    · have h1 : l.length = 4 := by
        have h' := h0
        unfold diagErr at h'
        split at h'
        · split at h'
          · assumption
          · cases h'
        · contradiction
      obtain ⟨a, b, c, d, rfl⟩ : ∃ a b c d, l = [a, b, c, d] := by
        match l, h1 with
        | [a, b, c, d], _ => exact ⟨a, b, c, d, rfl⟩
      obtain rfl : n = 4 := by rw [← hl]; rfl
      exact c_diagLaw2 p a b c d h0
    · exact c_diagLaw1 p l hl (by omega) h0
end Go.Ab
