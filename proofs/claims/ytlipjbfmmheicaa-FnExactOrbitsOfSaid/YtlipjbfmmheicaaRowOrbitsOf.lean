/- The statement of OrbitsOf: the law returns true for every integer and every list of maps. The proof is by the texts before; the frame of this text began as the kit's shell for such a row. -/
import Derived.Test.YtlipjbfmmheicaaRows
import Derived.Test.YtlipjbfmmheicaaO5
import Derived.Test.YtlipjbfmmheicaaP13
namespace Go.Proofs.Ytlipjbfmmheicaa.fnExactOrbitsOf
open Go.ChangeShapes Go.WideShapes Go.ChangeAt Go.RowKit Go.Ab

theorem own : ownKnob Try.prog.godebug = none := by kernel_rfl
def shape : List Ds := [.int .i64, .sl 9 (.arr 3 3 (.arr 3 1 (.int .i64)))]

theorem law (xs : List AV) (h : Vals shape xs) : Pure Try.prog 5 xs (.bool true) := by
  obtain ⟨x0, x1, rfl, h0, h1⟩ := Vals.two h
  obtain ⟨p, rfl, _⟩ := val_int h0
  obtain ⟨l, rfl, hl⟩ := val_maps h1
  exact c_orbLaw p l rfl hl

set_option maxRecDepth 100000 in
theorem lifted (os : Os) (started : os.Started) (H : Type) (enc : TypeId × Value → H) :
    ReturnsInHanded {} Try.checked os 5 .any (Rows.fnExactOrbitsOfSpec.pre6 enc Try.prog Try.f5 Rows.fnExactOrbitsOfRow.domain false) (Rows.fnExactOrbitsOfSpec.post enc Try.prog Try.f5 false true false false) := by
  refine returnsInHanded_of_change (C := Try.checked) own started (by kernel_rfl) Try.func5
    (ChangeSpec.witness6 (enc := enc) (C := Try.checked) false ⟨#[], #[.int .i64 0, .slice none 0 0], []⟩ 8 (by kernel_rfl) (by kernel_rfl) (by kernel_rfl) (by kernel_rfl)) ?_
  intro W base args ds gs before hval hW hcnd _
  exact law_post shape (by kernel_rfl) (by kernel_rfl) (by kernel_rfl) rfl (rt := 4) (by kernel_rfl) Try.underlying4 (by
    intro ys h
    match ys, h with
    | [a, b], _ => rfl) hval hW law

theorem over : Rows.fnExactOrbitsOfRow.holds Try.pinned (OpenSpec.ofChange Rows.fnExactOrbitsOfSpec) :=
  OpenClaim.holds_of_wide 5 Try.f5 rfl rfl rfl rfl rfl rfl rfl ⟨rfl, rfl, rfl, rfl, rfl⟩ rfl rfl rfl rfl rfl (by kernel_rfl) Try.func5 (by kernel_rfl)
    (of_decide_eq_true (by kernel_rfl)) (by unfold Func.isWrapper; first | (rw [if_pos (by decide +kernel)]; kernel_rfl) | (rw [if_neg (by decide +kernel)]; exact ⟨rfl, rfl⟩))
    (fun os started H enc _ => lifted os started H enc)

theorem proved : Rows.FnExactOrbitsOfSaid :=
  over
#print axioms proved
end Go.Proofs.Ytlipjbfmmheicaa.fnExactOrbitsOf
