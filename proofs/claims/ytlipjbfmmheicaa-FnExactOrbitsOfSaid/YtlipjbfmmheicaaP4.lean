/- Plain facts: lists of points; the codes that a plane answers with; three on a line. -/
import Derived.Test.YtlipjbfmmheicaaP3
namespace Go.Ab

def V3.O : V3 := ⟨0, 0, 1⟩
theorem cs3_get {l : List V3} {k : Nat} (h : k < l.length) : ((cs3 l).drop (k * 3)).take 3 = (l.getD k V3.O).cs := by
  rw [cs3_at l k h]
  simp [h]
theorem drop3 {l : List V3} {k : Nat} (h : k < l.length) : l.drop k = l.getD k V3.O :: l.drop (k + 1) := by
  rw [List.drop_eq_getElem_cons h]
  simp [h]
def ptsOk (p : Int) (l : List V3) : Bool := l.all fun v => nrm p v.l
def codeOf (p : Int) (l : List V3) : Int := if isP p then (if ptsOk p l then 0 else 1) else 2
theorem codeOf_ok {p : Int} {l : List V3} (h : codeOf p l = 0) : IsP p ∧ ptsOk p l = true := by
  unfold codeOf at h
  split at h
  · split at h
    · exact ⟨isP_iff.1 ‹_›, ‹_›⟩
    · cases h
  · cases h
theorem ptsOk_sm {p : Int} {l : List V3} (hp : IsP p) (h : ptsOk p l = true) (k : Nat) : (l.getD k V3.O).sm := by
  have hb := hp.bd
  rw [List.getD_eq_getElem?_getD]
  cases hk : l[k]? with
  | none => unfold V3.sm Sm; simp [V3.O]
  | some v =>
    unfold ptsOk at h
    rw [List.all_eq_true] at h
    have h1 := h v (List.mem_of_getElem? hk)
    simp only [nrm, Bool.and_eq_true, allIn, V3.l, List.all_cons, List.all_nil, inR, decide_eq_true_eq] at h1
    unfold V3.sm Sm
    simp only [Option.getD_some]
    omega
end Go.Ab
