/- The end of a statement about integer arguments: a contract of the law gives what its row asks. -/
import Derived.Test.YtlipjbfmmheicaaAb11
import Derived.WalkKit
import Derived.ProofKit
import Derived.OpenShut
namespace Go.Ab
open Go.RowKit (Below)

/-- A contract, asked with no snapshot among the arguments. -/
theorem Pure.calls {P : Program} {f : FuncId} {args : List AV} {res : AV} (h : Pure P f args res) {w : World} {vs : Array Value} (ha : relL (fun _ => False) w args vs.toList) :
    Calls P f vs w fun e w' => ∃ v F', e = .returned v ∧ Below w.heap.size w w' ∧ rel F' w' res v :=
  (h.2 (fun _ => False) w vs (fun _ h => h.elim) ha).mono fun _ _ ⟨v, F', h1, h2, _, _, _, h3⟩ => ⟨v, F', h1, h2, h3⟩

/-- A row without the last limb: old memory stays. -/
theorem post_below {H : Type} {enc : TypeId × Value → H} {P : Program} {f : Func} {s : ChangeSpec} {apart fresh handsOn : Bool} {W W' : World} {args : Array Value} {v : Value} {ds gs : List (DataW H)} {before pa pv : List MemPlace}
    (hW : DataW.Whole enc P f.params.toList s.vars apart W args.toList ds gs before)
    (hres : ∀ (b : Nat) (sp : Nat → Bool) (hd : Bool), DataW.TrodAll enc P W' b sp hd f.resultTypes.toList (v.resultList f.resultTypes.size) (s.fn H (ds ++ gs)).results [])
    (hargs : ∀ sp : Nat → Bool, (∀ p ∈ before, sp p.block = true) → DataW.TrodAll enc P W' 0 sp true f.params.toList args.toList (s.fn H (ds ++ gs)).args pa)
    (hvars : ∀ sp : Nat → Bool, (∀ p ∈ before, sp p.block = true) → DataW.TrodVars enc P W' sp s.vars (s.fn H (ds ++ gs)).vars pv)
    (_hps : before = pa ++ pv) (hb : Below W.heap.size W W') : s.post enc P f apart fresh handsOn false W args v W' := by
  have hold : ∀ p ∈ before, (fun b => decide (b < W.heap.size)) p.block = true := fun p hp => by simpa using hW.lt p hp
  refine ⟨ds, gs, before, [], pa, pv, hW, hres _ _ _, hargs _ hold, hvars _ hold, hb.frame _, fun h => by cases h⟩
end Go.Ab
