/- Regions that draw their order, again: the calm operations kept in a list that grows at its head, so that a long region is looked up fast. -/
import Derived.Test.YtlipjbfmmheicaaAb10
namespace Go.Ab
section
variable {P : Program} {n : Nat} {C : Cx P n} {Q : Post} {s : St}

def itemAt : List Item → Nat → Option Item
  | [], _ => none
  | it :: _, 0 => some it
  | _ :: r, k + 1 => itemAt r k
theorem itemAt_eq : ∀ (l : List Item) (k : Nat), itemAt l k = l[k]?
  | [], _ => by simp [itemAt]
  | _ :: _, 0 => by simp [itemAt]
  | _ :: l, k + 1 => by simp [itemAt, itemAt_eq l k]

/-- What an operation reads: a slot of the frame, or the item that stands so many places from the head; with that item's own number. -/
def needsR (r : List Item) (fr : List (Nat × AV)) : List (Nat × Option Nat) → Option (List (Nat × AV))
  | [] => some []
  | (t, some q) :: nd => match itemAt r q with
    | some it => match needsR r fr nd with
      | some xs => some ((t, it.x) :: xs)
      | none => none
    | none => none
  | (t, none) :: nd => match get fr t with
    | some x => match needsR r fr nd with
      | some xs => some ((t, x) :: xs)
      | none => none
    | none => none

def turn (k : Nat) : List (Nat × Option Nat) → List (Nat × Option Nat)
  | [] => []
  | (t, some q) :: nd => (t, some (k - 1 - q)) :: turn k nd
  | (t, none) :: nd => (t, none) :: turn k nd

theorem needsR_eq {r : List Item} {fr : List (Nat × AV)} : ∀ {nd : List (Nat × Option Nat)} {xs : List (Nat × AV)}, needsR r fr nd = some xs → needsOf r.reverse fr (turn r.length nd) = some xs
  | [], xs, h => h
  | (t, some q) :: nd, xs, h => by
    simp only [needsR, itemAt_eq] at h
    simp only [turn, needsOf]
    split at h
    · rename_i it hit
      split at h
      · rename_i ys hys
        have hq : q < r.length := by
          rcases Nat.lt_or_ge q r.length with h' | h'
          · exact h'
          · simp [List.getElem?_eq_none h'] at hit
        have h1 : r.reverse[r.length - 1 - q]? = some it := by
          rw [List.getElem?_reverse (by omega)]
          have : r.length - 1 - (r.length - 1 - q) = q := by omega
          rw [this]
          exact hit
        rw [h1, needsR_eq hys]
        exact h
      · cases h
    · cases h
  | (t, none) :: nd, xs, h => by
    simp only [needsR] at h
    simp only [turn, needsOf]
    split at h
    · rename_i x hx
      split at h
      · rename_i ys hys
        rw [hx, needsR_eq hys]
        exact h
      · cases h
    · cases h

def DrawR (C : Cx P n) (ops : Array Oper) (L0 : List Nat) (H : List Ar) (fr0 : List (Nat × AV)) (Q : Post) (r : List Item) : Prop := Draw C ops L0 H fr0 Q r.reverse

theorem Drawn.calmR {ops : Array Oper} {L0 : List Nat} (k : DrawR C ops L0 s.hp s.fr Q []) : Drawn C ops L0 Q s := Drawn.calm k

theorem DrawR.op (i d len : Nat) (nd : List (Nat × Option Nat)) {ops : Array Oper} {L0 : List Nat} {H : List Ar} {fr0 : List (Nat × AV)} {r : List Item} {needs : List (Nat × AV)} {x : AV} (hlen : r.length = len) (hn : needsR r fr0 nd = some needs)
    (h : ∀ rest, Run C ops [i] (Single d x (needs ++ rest) H) ⟨needs ++ rest, H⟩) (k : DrawR C ops L0 H fr0 Q (⟨i, d, turn len nd, x⟩ :: r)) : DrawR C ops L0 H fr0 Q r := by
  subst hlen
  exact Draw.op i d (turn r.length nd) (needsR_eq hn) h (by unfold DrawR at k; rw [List.reverse_cons] at k; exact k)

def puts : List Item → List (Nat × AV) → List (Nat × AV)
  | [], fr => fr
  | it :: r, fr => (it.d, it.x) :: puts r fr
theorem puts_eq (fr : List (Nat × AV)) : ∀ r : List Item, puts r fr = r.map (fun it => (it.d, it.x)) ++ fr
  | [] => rfl
  | it :: r => by simp [puts, puts_eq fr r]

theorem get_in {fr0 : List (Nat × AV)} : ∀ {its : List Item} {it : Item}, it ∈ its → (∀ y ∈ its, y.d = it.d → y.x = it.x) → get (its.map (fun it => (it.d, it.x)) ++ fr0) it.d = some it.x
  | [], _, h, _ => by cases h
  | y :: its, it, h, hu => by
    simp only [List.map_cons, List.cons_append]
    by_cases hd : y.d = it.d
    · rw [← hd, get_cons_self, hu y (by simp) hd]
    · rw [get_cons_ne _ _ hd]
      refine get_in ?_ (fun z hz => hu z (by simp [hz]))
      rcases List.mem_cons.1 h with rfl | h
      · exact absurd rfl hd
      · exact h
theorem get_out {fr0 : List (Nat × AV)} {t : Nat} : ∀ {its : List Item}, (∀ y ∈ its, y.d ≠ t) → get (its.map (fun it => (it.d, it.x)) ++ fr0) t = get fr0 t
  | [], _ => rfl
  | y :: its, h => by
    simp only [List.map_cons, List.cons_append]
    rw [get_cons_ne _ _ (h y (by simp))]
    exact get_out fun z hz => h z (by simp [hz])

def keysGo : List Item → List Key → List Key
  | [], acc => acc
  | it :: r, acc => keysGo r ((it.i, it.d, it.nd) :: acc)
def keysR (r : List Item) : List Key := keysGo r []
theorem keysR_eq (r : List Item) : keysR r = r.reverse.map Item.key := by
  have : ∀ (r : List Item) (acc : List Key), keysGo r acc = r.reverse.map Item.key ++ acc := by
    intro r
    induction r with
    | nil => intro acc; rfl
    | cons it r ih => intro acc; simp only [keysGo, ih, List.reverse_cons, List.map_append, List.append_assoc]; rfl
  have h := this r []
  rw [List.append_nil] at h
  exact h

theorem DrawR.tail (tl : List Nat) {ops : Array Oper} {L0 : List Nat} {H : List Ar} {fr0 : List (Nat × AV)} {r : List Item} {ks : List Key} (hk : keysR r = ks) (hb : drawB ops L0 ks tl = true)
    (k : Run C ops tl (np Q) ⟨puts r fr0, H⟩) : DrawR C ops L0 H fr0 Q r := by
  have hks : r.reverse.map Item.key = ks := by rw [← keysR_eq, hk]
  refine Draw.tail tl hks hb ?_
  have hb' := hb
  simp only [drawB, Bool.and_eq_true] at hb'
  have ok := drawB_spec (its := r.reverse) (by rw [hks]; exact hb'.1)
  have uniq : ∀ y ∈ r.reverse, ∀ z ∈ r.reverse, y.d = z.d → y.x = z.x := by
    intro y hy z hz hd
    obtain ⟨p, hp⟩ := List.mem_iff_getElem?.1 hy
    obtain ⟨q, hq⟩ := List.mem_iff_getElem?.1 hz
    rcases Nat.lt_trichotomy p q with h | h | h
    · exact absurd hd (ok.dist q p z y hq hp h).2
    · subst h; rw [hp] at hq; cases hq; rfl
    · exact absurd hd.symm (ok.dist p q y z hp hq h).2
  intro F a w hr
  refine k F a w (hr.frame fun t x hx => ⟨x, ?_, fun _ _ h => h⟩)
  simp only [puts_eq] at hx
  rcases get_ends fr0 r t x hx with ⟨it, hit, rfl, rfl⟩ | ⟨h1, h2⟩
  · exact get_in (by simpa using hit) (fun y hy hd => uniq y hy it (by simpa using hit) hd)
  · rw [get_out (fun y hy => h1 y (by simpa using hy)), h2]
end
end Go.Ab
