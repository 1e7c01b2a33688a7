/- Plain facts: lists of numbers; what is normal; the normal form. -/
import Derived.Test.YtlipjbfmmheicaaP1
namespace Go.Ab

def ints (l : List Int) : List AV := l.map (.int .i64)
theorem ints_length (l : List Int) : (ints l).length = l.length := by simp [ints]
theorem ints_at {l : List Int} {k : Nat} (h : k < l.length) : (ints l)[0 + k * 1]? = some (.int .i64 (l.getD k 0)) := by
  simp [ints, h]
theorem ints_at' {l : List Int} {k : Nat} (h : k < l.length) : (ints l)[k * 1]? = some (.int .i64 (l.getD k 0)) := by
  simp [ints, h]
theorem drop_getD {l : List Int} {k : Nat} (h : k < l.length) : l.drop k = l.getD k 0 :: l.drop (k + 1) := by
  rw [List.drop_eq_getElem_cons h]
  simp [h]
theorem splice_one {cs : List AV} {k : Nat} {x : AV} (h : k < cs.length) : splice cs (0 + k * 1) [x] = cs.set k x := by
  rw [List.set_eq_take_append_cons_drop, if_pos h]
  simp [splice]
theorem ints_all (l : List Int) : (ints l).all AV.sc = true := by simp [ints, AV.sc]
theorem ints_take {l : List Int} {k : Nat} (h : l.length = k) : (ints l).take (k * 1) = ints l := List.take_of_length_le (by rw [ints_length]; omega)

def inR (p x : Int) : Bool := decide (x ≥ 0) && decide (x ≤ p - 1)
def allIn (p : Int) (l : List Int) : Bool := l.all (inR p)
def nz : Int → Bool := fun x => x != 0
def firstNz (l : List Int) : Int := (l.find? nz).getD 0
/-- All in the range of remainders, the first that is not 0 is 1. -/
def nrm (p : Int) (l : List Int) : Bool := allIn p l && (firstNz l == 1)

/-- The factor that makes a list normal: the inverse of the first that is not 0. -/
def facOf (p : Int) (l : List Int) : Int := match l.find? (fun x => x % p != 0) with
  | some x => inv p x
  | none => 0
def norml (p : Int) (l : List Int) : List Int := l.map fun x => x % p * facOf p l % p
theorem norml_length (p : Int) (l : List Int) : (norml p l).length = l.length := by simp [norml]

theorem V3.ints (v : V3) : v.cs = Ab.ints [v.a, v.b, v.c] := rfl
def V3.l (v : V3) : List Int := [v.a, v.b, v.c]
end Go.Ab
