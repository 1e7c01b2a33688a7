/- Plain facts: four points, no three on a line. -/
import Derived.Test.YtlipjbfmmheicaaP7
namespace Go.Ab

/-- Three of a list lie on a line. -/
def onL (p : Int) (l : List V3) (i j k : Nat) : Bool := det (l.getD i V3.O) (l.getD j V3.O) (l.getD k V3.O) % p == 0
/-- Four points, no three of them on a line. -/
def frame (p : Int) (l : List V3) : Bool := !onL p l 2 1 0 && (!onL p l 3 1 0 && (!onL p l 3 2 0 && !onL p l 3 2 1))
theorem det_rev (u v w : V3) : det w v u = - det u v w := by
  unfold det
  grind
theorem onL_rev (p : Int) (l : List V3) (i j k : Nat) : onL p l k j i = onL p l i j k := by
  unfold onL
  rw [det_rev, Bool.eq_iff_iff, beq_iff_eq, beq_iff_eq, ← Int.dvd_iff_emod_eq_zero, ← Int.dvd_iff_emod_eq_zero, Int.dvd_neg]
#print axioms det_rev
end Go.Ab
