/- Regions that draw their order in which operations that make new blocks may come at any time. -/
import Derived.Test.YtlipjbfmmheicaaAb15
namespace Go.Ab
open Go.RowKit (Below)
section
variable {P : Program} {n : Nat} {C : Cx P n} {Q : Post} {s : St}

/-- An operation i that gives its slot d a value and fills the place id: what it gives is told by pr. An operation i2 may write to the place afterwards: what lies there then is told by pr2. -/
structure Early where
  i : Nat
  d : Nat
  id : Nat
  pr : AV → Ar → Prop
  i2 : Option Nat := none
  pr2 : AV → Ar → Prop := fun _ _ => True
def Early.fin (e : Early) : AV → Ar → Prop := match e.i2 with
  | none => e.pr
  | some _ => e.pr2

abbrev Got := Nat → Option (AV × Ar)
def gotX (o : Option (AV × Ar)) : AV := match o with
  | some (x, _) => x
  | none => .junk
def gotL (o : Option (AV × Ar)) : Ar := match o with
  | some (_, l) => l
  | none => []
def hpE : List Early → Got → List Ar → List Ar
  | [], _, H => H
  | e :: es, ob, H => hpE es ob (H.set e.id (gotL (ob e.i)))
def frE : List Early → Got → List (Nat × AV) → List (Nat × AV)
  | [], _, fr => fr
  | e :: es, ob, fr => frE es ob ((e.d, gotX (ob e.i)) :: fr)
def EachE (K : List Ar → Prop) : List Early → List Ar → Prop
  | [], H => K H
  | e :: es, H => ∀ l : Ar, EachE K es (H.set e.id l)
theorem EachE.at {K : List Ar → Prop} (ob : Got) : ∀ {es : List Early} {H : List Ar}, EachE K es H → K (hpE es ob H)
  | [], _, h => h
  | e :: es, _, h => EachE.at ob (es := es) (h (gotL (ob e.i)))

def upd (ob : Got) (i : Nat) (v : AV × Ar) : Got := fun j => if j = i then some v else ob j
theorem hpE_out (ob : Got) {k : Nat} {v : Ar} : ∀ {es : List Early} {H : List Ar}, (∀ e ∈ es, e.id ≠ k) → hpE es ob (H.set k v) = (hpE es ob H).set k v
  | [], _, _ => rfl
  | e :: es, H, h => by
    simp only [hpE]
    rw [List.set_comm _ _ (Ne.symm (h e (by simp))), hpE_out ob fun e he => h e (by simp [he])]
theorem hpE_upd {ob : Got} {i : Nat} {v : AV × Ar} : ∀ {es : List Early} {H : List Ar}, (∀ e ∈ es, e.i ≠ i) → hpE es (upd ob i v) H = hpE es ob H
  | [], _, _ => rfl
  | e :: es, H, h => by
    simp only [hpE]
    rw [show upd ob i v e.i = ob e.i from if_neg (h e (by simp)), hpE_upd fun e he => h e (by simp [he])]
def distE : List Early → Prop
  | [] => True
  | e :: es => (∀ e' ∈ es, e'.id ≠ e.id ∧ e'.i ≠ e.i) ∧ distE es
theorem hpE_put {ob : Got} {x : AV} {l : Ar} {e : Early} : ∀ {es : List Early} {H : List Ar}, distE es → e ∈ es → (hpE es ob H).set e.id l = hpE es (upd ob e.i (x, l)) H
  | [], _, _, h => by cases h
  | e0 :: es, H, hd, h => by
    simp only [hpE]
    rcases List.mem_cons.1 h with rfl | h
    · rw [hpE_upd fun e he => (hd.1 e he).2, ← hpE_out ob fun e he => (hd.1 e he).1, List.set_set]
      rw [show upd ob e.i (x, l) e.i = some (x, l) from if_pos rfl]
      rfl
    · rw [show upd ob e.i (x, l) e0.i = ob e0.i from if_neg (Ne.symm (hd.1 e h).2)]
      exact hpE_put hd.2 h

def isE (es : List Early) (i : Nat) : Bool := es.any fun e => e.i == i
theorem isE_iff {es : List Early} {i : Nat} : isE es i = true ↔ ∃ e ∈ es, e.i = i := by simp [isE]
def valE (es : List Early) (ob : Got) (it : Item) : AV := if isE es it.i = true then gotX (ob it.i) else it.x

def isW (es : List Early) (i : Nat) : Bool := es.any fun e => match e.i2 with
  | some j => j == i
  | none => false
theorem isW_iff {es : List Early} {i : Nat} : isW es i = true ↔ ∃ e ∈ es, e.i2 = some i := by
  simp only [isW, List.any_eq_true]
  constructor
  · rintro ⟨e, he, h⟩
    cases h2 : e.i2 with
    | none => simp [h2] at h
    | some j => simp [h2] at h; subst h; exact ⟨e, he, h2⟩
  · rintro ⟨e, he, h⟩
    exact ⟨e, he, by simp [h]⟩
def SingleW (e : Early) (x : AV) (fr : List (Nat × AV)) (H : List Ar) : Post := fun ex s => ex = .normal ∧ ∃ l, e.pr2 x l ∧ s = ⟨fr, H.set e.id l⟩
theorem singleW_nil {ops : Array Oper} {e : Early} {x : AV} {l : Ar} {fr : List (Nat × AV)} {H : List Ar} (h : e.pr2 x l) : Run C ops [] (SingleW e x fr H) ⟨fr, H.set e.id l⟩ := Run.nil ⟨rfl, l, h, rfl⟩
def SingleE (e : Early) (fr : List (Nat × AV)) (H : List Ar) : Post := fun ex s => ex = .normal ∧ ∃ x l, e.pr x l ∧ s = ⟨(e.d, x) :: fr, H.set e.id l⟩
theorem singleE_nil {ops : Array Oper} {e : Early} {x : AV} {l : Ar} {fr : List (Nat × AV)} {H : List Ar} (h : e.pr x l) : Run C ops [] (SingleE e fr H) ⟨(e.d, x) :: fr, H.set e.id l⟩ := Run.nil ⟨rfl, x, l, h, rfl⟩

def okE (C : Cx P n) (ops : Array Oper) (H : List Ar) (fr0 : List (Nat × AV)) (its : List Item) (es : List Early) (it : Item) : Prop :=
  (isE es it.i = false ∧ isW es it.i = false ∧ ∃ needs, needsOf its fr0 it.nd = some needs ∧ EachE (fun H' => ∀ rest, Run C ops [it.i] (Single it.d it.x (needs ++ rest) H') ⟨needs ++ rest, H'⟩) es H) ∨
  (∃ e ∈ es, e.i = it.i ∧ e.d = it.d ∧ ∃ needs, needsOf its fr0 it.nd = some needs ∧ EachE (fun H' => ∀ rest, Run C ops [it.i] (SingleE e (needs ++ rest) H') ⟨needs ++ rest, H'⟩) es H) ∨
  (∃ e ∈ es, e.i2 = some it.i ∧ isE es it.i = false ∧ it.x = .junk ∧ ∃ needs, needsOf its fr0 it.nd = some needs ∧ EachE (fun H' => ∀ rest x l, e.pr x l → Run C ops [it.i] (SingleW e x ((e.d, x) :: (needs ++ rest)) (H'.set e.id l)) ⟨(e.d, x) :: (needs ++ rest), H'.set e.id l⟩) es H)

theorem wpOp_post {ops : Array Oper} {i : Nat} {Q1 : Post} {Q2 : Exit → Act → World → Prop} {K : Act → World → Prop} {a : Act} {w : World} (hn : ∀ e s, Q1 e s → e = .normal)
    (hh : wpOp P ops (lift C Q1) i (wpOps P ops (lift C Q1) []) a w) (hk : ∀ a' w', lift C Q1 .normal a' w' → K a' w') : wpOp P ops Q2 i K a w := by
  unfold wpOp at hh ⊢
  split at hh
  · exact hk _ _ hh
  · rename_i o ho
    split at hh
    · rename_i hw
      simp only [hw, if_true]
      rcases hh with h1 | ⟨_, a0, w0, F0, s0, _, hq⟩
      · refine .inl ?_
        have h2 := Oper.wp_mono (K' := K) (fun a' w' h => hk a' w' h) h1
        unfold Oper.wp at h2 ⊢
        generalize (execOp a.eval o).run P w = r at h2 ⊢
        cases r with
        | ok nx w' =>
          cases nx <;> simp only [Oper.upon] at h2 ⊢ <;> first
            | exact h2
            | exact Calls.mono h2 (fun e w'' he => by
                cases e with
                | returned v => exact he
                | panicked c => obtain ⟨_, _, _, hq⟩ := he; have := hn _ _ hq; cases this
                | outgrown => obtain ⟨_, _, _, _, _, hq⟩ := he; have := hn _ _ hq; cases this)
        | halt hh w' =>
          cases hh <;> simp only [Oper.upon] at h2 ⊢
          all_goals first
            | exact h2
            | (obtain ⟨_, _, _, hq⟩ := h2; have := hn _ _ hq; cases this)
      · have := hn _ _ hq; cases this
    · rename_i hw
      simp only [hw]
      exact hk _ _ hh

structure InvE (C : Cx P n) (its : List Item) (es : List Early) (fr0 : List (Nat × AV)) (H : List Ar) (listed : Array Bool) (a : Act) (w : World) : Prop where
  st : ∃ F fr ob, R C F ⟨fr, hpE es ob H⟩ a w ∧ (∀ e ∈ es, listed.getD e.i false = true → ∃ x l, ob e.i = some (x, l) ∧ ((∀ j, e.i2 = some j → listed.getD j false = false) → e.pr x l) ∧ ((∃ j, e.i2 = some j ∧ listed.getD j false = true) → e.pr2 x l)) ∧
    (∀ it ∈ its, listed.getD it.i false = true → isW es it.i = false → get fr it.d = some (valE es ob it)) ∧
    (∀ t x, get fr0 t = some x → (∀ it ∈ its, listed.getD it.i false = true → it.d ≠ t) → get fr t = some x)

/-- All has come but the tail. -/
def DoneE (C : Cx P n) (its : List Item) (es : List Early) (fr0 : List (Nat × AV)) (H : List Ar) (a : Act) (w : World) : Prop :=
  ∃ F fr ob, R C F ⟨fr, hpE es ob H⟩ a w ∧ (∀ e ∈ es, ∃ x l, ob e.i = some (x, l) ∧ e.fin x l) ∧ (∀ it ∈ its, isW es it.i = false → get fr it.d = some (valE es ob it)) ∧ (∀ t x, get fr0 t = some x → (∀ it ∈ its, it.d ≠ t) → get fr t = some x)

structure EarlyOk (ops : Array Oper) (its : List Item) (es : List Early) : Prop where
  dist : distE es
  at' : ∀ e ∈ es, ∃ it ∈ its, it.i = e.i ∧ it.d = e.d
  far : ∀ it ∈ its, ∀ t q y, (t, some q) ∈ it.nd → its[q]? = some y → isE es y.i = false ∧ isW es y.i = false
  two : ∀ e ∈ es, ∀ j, e.i2 = some j → (∃ it ∈ its, it.i = j) ∧ isE es j = false ∧ ((masks ops ops.size).getD j 0).testBit e.i = true
  two' : ∀ e ∈ es, ∀ e' ∈ es, ∀ j, e.i2 = some j → e'.i2 = some j → e'.i = e.i

theorem EarlyOk.noW {ops : Array Oper} {its : List Item} {es : List Early} (oe : EarlyOk ops its es) {i : Nat} (h : isE es i = true) : isW es i = false := by
  cases hw : isW es i with
  | false => rfl
  | true =>
    obtain ⟨e, he, hj⟩ := isW_iff.1 hw
    have := (oe.two e he i hj).2.1
    rw [h] at this
    cases this
theorem distE.eq : ∀ {es : List Early}, distE es → ∀ {e e' : Early}, e ∈ es → e' ∈ es → e'.i = e.i → e' = e
  | [], _, _, _, h, _, _ => by cases h
  | e0 :: es, hd, e, e', k1, k2, hee => by
    rcases List.mem_cons.1 k1 with h1 | h1 <;> rcases List.mem_cons.1 k2 with h2 | h2
    · rw [h1, h2]
    · exact absurd (h1 ▸ hee) (hd.1 _ h2).2
    · exact absurd (h2 ▸ hee).symm (hd.1 _ h1).2
    · exact distE.eq hd.2 h1 h2 hee

theorem drawE_finish {ops : Array Oper} {L0 : List Nat} {its : List Item} {es : List Early} {tl : List Nat} {fr0 : List (Nat × AV)} {H : List Ar} {Q2 : Exit → Act → World → Prop} (ok : DrawOk ops L0 its tl) (oe : EarlyOk ops its es)
    (fin : ∀ a w, DoneE C its es fr0 H a w → ∀ fuel, tl.length ≤ fuel → wpAny P .any ops Q2 fuel (arr ops.size (L0 ++ its.map (·.i))) a w)
    {listed : Array Bool} {a : Act} {w : World} (hinv : InvE C its es fr0 H listed a w) (hg : Good ops L0 its tl listed) (hall : ∀ it ∈ its, listed.getD it.i false = true) (fuel : Nat) (hf : tl.length ≤ fuel) : wpAny P .any ops Q2 fuel listed a w := by
  have e : listed = arr ops.size (L0 ++ its.map (·.i)) := by
    apply Array.ext
    · simp [hg.size, arr]
    · intro i h1 h2
      have hi : i < ops.size := by rw [← hg.size]; exact h1
      have g1 : listed.getD i false = listed[i] := by simp [Array.getD, h1]
      have g2 := arr_getD (N := ops.size) (L := L0 ++ its.map (·.i)) false hi
      have g3 : (arr ops.size (L0 ++ its.map (·.i))).getD i false = (arr ops.size (L0 ++ its.map (·.i)))[i] := by rw [Array.getD_eq_getD_getElem?, Array.getElem?_eq_getElem h2]; rfl
      rw [← g1, ← g3, g2]
      rcases ok.cover i hi with h | ⟨it, hit, rfl⟩ | h
      · rw [hg.l0 i h]; simp [h]
      · rw [hall it hit]
        have : it.i ∈ its.map (·.i) := List.mem_map.2 ⟨it, hit, rfl⟩
        exact (List.contains_iff_mem.2 (List.mem_append.2 (.inr this))).symm
      · rw [hg.tl i h]
        obtain ⟨h1, h2, _⟩ := ok.tl0 i h
        have : ¬ i ∈ L0 ++ its.map (·.i) := by
          simp only [List.mem_append, List.mem_map, not_or]
          exact ⟨h1, fun ⟨it, hit, he⟩ => h2 it hit he⟩
        cases hc : (L0 ++ its.map (·.i)).contains i with
        | false => rfl
        | true => exact absurd (List.contains_iff_mem.1 hc) this
  rw [e]
  obtain ⟨F, fr, ob, hr, h0, h1, h2⟩ := hinv.st
  refine fin a w ⟨F, fr, ob, hr, fun e he => ?_, fun it hit => h1 it hit (hall it hit), fun t x hx hno => h2 t x hx fun it hit _ => hno it hit⟩ fuel hf
  obtain ⟨it, hit, hi, _⟩ := oe.at' e he
  obtain ⟨x, l, k1, k2, k3⟩ := h0 e he (hi ▸ hall it hit)
  refine ⟨x, l, k1, ?_⟩
  unfold Early.fin
  cases hj : e.i2 with
  | none => exact k2 fun j h => by rw [hj] at h; cases h
  | some j =>
    obtain ⟨⟨it2, hit2, hi2⟩, _⟩ := oe.two e he j hj
    exact k3 ⟨j, hj, hi2 ▸ hall it2 hit2⟩

theorem drawE_main {ops : Array Oper} {L0 : List Nat} {its : List Item} {es : List Early} {tl : List Nat} {fr0 : List (Nat × AV)} {H : List Ar} {Q2 : Exit → Act → World → Prop} (ok : DrawOk ops L0 its tl) (oe : EarlyOk ops its es) (hs : ∀ it ∈ its, okE C ops H fr0 its es it)
    (fin : ∀ a w, DoneE C its es fr0 H a w → ∀ fuel, tl.length ≤ fuel → wpAny P .any ops Q2 fuel (arr ops.size (L0 ++ its.map (·.i))) a w) :
    ∀ (fuel : Nat) (listed : Array Bool) (a : Act) (w : World), InvE C its es fr0 H listed a w → Good ops L0 its tl listed → ((its.filter fun it => !listed.getD it.i false).length + tl.length ≤ fuel) → wpAny P .any ops Q2 fuel listed a w := by
  intro fuel
  have allOf : ∀ {listed : Array Bool}, (its.filter fun it => !listed.getD it.i false) = [] → ∀ it ∈ its, listed.getD it.i false = true := by
    intro listed h it hit
    have := List.filter_eq_nil_iff.1 h it hit
    cases hb : listed.getD it.i false with
    | true => rfl
    | false => rw [hb] at this; exact absurd rfl this
  induction fuel with
  | zero =>
    intro listed a w hinv hg hf
    exact drawE_finish ok oe fin hinv hg (allOf (List.length_eq_zero_iff.1 (by omega))) 0 (by omega)
  | succ fuel ih =>
    intro listed a w hinv hg hf
    by_cases hall : (its.filter fun it => !listed.getD it.i false) = []
    · exact drawE_finish ok oe fin hinv hg (allOf hall) (fuel + 1) (by rw [hall] at hf; simpa using hf)
    · have hex : ∃ it ∈ its, (!listed.getD it.i false) = true := by
        obtain ⟨it, hit⟩ := List.exists_mem_of_ne_nil _ hall
        exact ⟨it, (List.mem_filter.1 hit).1, (List.mem_filter.1 hit).2⟩
      refine ⟨fun h0 => ?_, fun i hi => ?_⟩
      · obtain ⟨p, x, hx, hux, hbefore⟩ := first_of (fun it : Item => !listed.getD it.i false) its hex
        exfalso
        have hxm := List.mem_of_getElem? hx
        have hlt := (ok.cl0 x hxm).2
        have hr : x.i ∈ Region.ready .any ops listed := by
          refine mem_ready.2 ⟨?_, ops[x.i], Array.getElem?_eq_getElem hlt, fun e he hb => ?_⟩
          · have : listed.getD x.i false = false := by simpa using hux
            rw [Array.getD_eq_getD_getElem?] at this ⊢
            have hl : x.i < listed.size := by rw [hg.size]; exact hlt
            rw [Array.getElem?_eq_getElem hl] at this ⊢
            exact this
          · have hed : e.on ∈ edges ops x.i := (mem_edges (Array.getElem?_eq_getElem hlt)).2 ⟨e, he, hb, rfl⟩
            rcases ok.early p x hx e.on hed with h | ⟨q, y, hq, hy, hye⟩
            · exact hg.l0 _ h
            · have := hbefore q y hq hy
              rw [← hye]
              simpa using this
        rw [h0] at hr
        cases hr
      · obtain ⟨hun, o, ho, hed⟩ := mem_ready.1 hi
        have hlt : i < ops.size := (Array.getElem?_eq_some_iff.1 ho).1
        have hl : i < listed.size := by rw [hg.size]; exact hlt
        have hun' : listed.getD i false = false := by
          rw [Array.getD_eq_getD_getElem?] at hun ⊢
          rw [Array.getElem?_eq_getElem hl] at hun ⊢
          exact hun
        have hedges : ∀ e ∈ edges ops i, listed.getD e false = true := fun e he => by
          obtain ⟨x, hx, hb, rfl⟩ := (mem_edges ho).1 he
          exact hed x hx hb
        rcases ok.cover i hlt with h | ⟨it, hit, rfl⟩ | h
        · rw [hg.l0 i h] at hun'; cases hun'
        · obtain ⟨F, fr, ob, hr, h0, h1, h2⟩ := hinv.st
          have hold : ∀ needs, needsOf its fr0 it.nd = some needs → ∀ t x, (t, x) ∈ needs → get fr t = some x := by
            intro needs hneeds
            refine needs_hold hneeds (fun t q y hm hy => ?_) (fun t x hm hx => ?_)
            · obtain ⟨y', hy', hyt, hb⟩ := ok.from' it hit t q hm
              rw [hy] at hy'
              cases hy'
              rw [← hyt]
              have := h1 y (List.mem_of_getElem? hy) (hg.waits hb hedges) (oe.far it hit t q y hm hy).2
              rw [this]
              unfold valE
              rw [(oe.far it hit t q y hm hy).1]
              rfl
            · refine h2 t x hx fun y hy hly hyt => ?_
              have hb := ok.from0 it hit t hm y hy hyt
              have := hg.waits hb (fun e he => hg.closed y.i hly e he)
              rw [hun'] at this
              cases this
          have hset : ∀ j, (listed.setIfInBounds it.i true).getD j false = true ↔ j = it.i ∨ listed.getD j false = true := by
            intro j
            by_cases hj : it.i = j
            · subst hj
              simp [Array.getD_eq_getD_getElem?, hl]
            · rw [getD_set_ne false hj]
              constructor
              · exact .inr
              · rintro (h | h)
                · exact absurd h.symm hj
                · exact h
          have hpos : ∃ p, its[p]? = some it := List.getElem?_of_mem hit
          have hdist : ∀ y ∈ its, y.i ≠ it.i → y.d ≠ it.d := fun y hy hne => by
            obtain ⟨p, hp⟩ := hpos
            obtain ⟨q, hq⟩ := List.getElem?_of_mem hy
            rcases Nat.lt_trichotomy p q with h | h | h
            · exact fun e => (ok.dist q p y it hq hp h).2 e.symm
            · subst h; rw [hp] at hq; cases hq; exact absurd rfl hne
            · exact (ok.dist p q it y hp hq h).2
          have hsame : ∀ y ∈ its, y.i = it.i → y = it := fun y hy he => by
            obtain ⟨p, hp⟩ := hpos
            obtain ⟨q, hq⟩ := List.getElem?_of_mem hy
            rcases Nat.lt_trichotomy p q with h | h | h
            · exact absurd he.symm (ok.dist q p y it hq hp h).1
            · subst h; rw [hp] at hq; cases hq; rfl
            · exact absurd he (ok.dist p q it y hp hq h).1
          have goodNext : Good ops L0 its tl (listed.setIfInBounds it.i true) := by
            refine ⟨by simp [hg.size], fun j hj => (hset j).2 (.inr (hg.l0 j hj)), fun t ht => ?_, fun j hj e he => ?_⟩
            · cases hb : (listed.setIfInBounds it.i true).getD t false with
              | false => rfl
              | true =>
                rcases (hset t).1 hb with h | h
                · exact absurd h.symm ((ok.tl0 t ht).2.1 it hit)
                · rw [hg.tl t ht] at h; cases h
            · refine (hset e).2 (.inr ?_)
              rcases (hset j).1 hj with rfl | hj
              · exact hedges e he
              · exact hg.closed j hj e he
          have fuelNext : (its.filter fun it' => !(listed.setIfInBounds it.i true).getD it'.i false).length + tl.length ≤ fuel := by
            have hlt2 := filter_lt (fun y : Item => !listed.getD y.i false) (fun y : Item => !(listed.setIfInBounds it.i true).getD y.i false) its (fun y _ hq => by
              cases hb : listed.getD y.i false with
              | false => rfl
              | true =>
                have := (hset y.i).2 (.inr hb)
                rw [this] at hq
                cases hq) ⟨it, hit, by rw [hun']; rfl, by rw [(hset it.i).2 (.inl rfl)]; rfl⟩
            omega
          have keepE : isW es it.i = false → ∀ e' ∈ es, e'.i ≠ it.i → (listed.setIfInBounds it.i true).getD e'.i false = true → ∃ x l, ob e'.i = some (x, l) ∧ ((∀ j, e'.i2 = some j → (listed.setIfInBounds it.i true).getD j false = false) → e'.pr x l) ∧ ((∃ j, e'.i2 = some j ∧ (listed.setIfInBounds it.i true).getD j false = true) → e'.pr2 x l) := by
            intro hnw e' he' hne hle
            obtain ⟨x, l, k1, k2, k3⟩ := h0 e' he' (((hset _).1 hle).resolve_left hne)
            refine ⟨x, l, k1, fun hno => k2 fun j hj => ?_, fun ⟨j, hj, hl⟩ => k3 ⟨j, hj, ((hset _).1 hl).resolve_left fun h => ?_⟩⟩
            · cases hb : listed.getD j false with
              | false => rfl
              | true => have := hno j hj; rw [(hset j).2 (.inr hb)] at this; cases this
            · have := isW_iff.2 ⟨e', he', h ▸ hj⟩
              rw [hnw] at this
              cases this
          rcases hs it hit with ⟨hcalm, hnw, needs, hneeds, hrun⟩ | ⟨e, he, hei, hed', needs, hneeds, hrun⟩ | ⟨e, he, hej, hcalm, _, needs, hneeds, hrun⟩
          · have hhold := hold needs hneeds
            have hget := get_needs hhold
            have hr' : R C F ⟨needs ++ fr, hpE es ob H⟩ a w := hr.frame fun t x hx => ⟨x, by rw [← hget]; exact hx, fun _ _ h => h⟩
            have hone := hrun.at ob fr F a w hr'
            rw [wpOps_cons] at hone
            refine wpOp_post (Q1 := Single it.d it.x (needs ++ fr) (hpE es ob H)) (fun e s h => h.1) hone fun a' w' ⟨F', s', hr2, _, hs'⟩ => ?_
            subst hs'
            refine ih _ a' w' ⟨F', _, ob, hr2, fun e' he' hle => keepE hnw e' he' (fun h => ?_) hle, fun y hy hly hw => ?_, fun t x hx hno => ?_⟩ goodNext fuelNext
            · have := isE_iff.2 ⟨e', he', h⟩
              rw [hcalm] at this
              cases this
            · by_cases he : y.i = it.i
              · rw [hsame y hy he, get_cons_self]
                unfold valE
                rw [hcalm]
                rfl
              · rw [get_cons_ne _ _ (hdist y hy he).symm, hget]
                exact h1 y hy (((hset _).1 hly).resolve_left he) hw
            · have hd : it.d ≠ t := hno it hit ((hset _).2 (.inl rfl))
              rw [get_cons_ne _ _ hd, hget]
              exact h2 t x hx fun y hy hly => hno y hy ((hset _).2 (.inr hly))
          · have hhold := hold needs hneeds
            have hget := get_needs hhold
            have hr' : R C F ⟨needs ++ fr, hpE es ob H⟩ a w := hr.frame fun t x hx => ⟨x, by rw [← hget]; exact hx, fun _ _ h => h⟩
            have hone := hrun.at ob fr F a w hr'
            rw [wpOps_cons] at hone
            refine wpOp_post (Q1 := SingleE e (needs ++ fr) (hpE es ob H)) (fun e s h => h.1) hone fun a' w' ⟨F', s', hr2, _, x, l, hpr, hs'⟩ => ?_
            subst hs'
            rw [hpE_put (x := x) oe.dist he] at hr2
            have hnw : isW es it.i = false := oe.noW (isE_iff.2 ⟨e, he, hei⟩)
            refine ih _ a' w' ⟨F', _, upd ob e.i (x, l), hr2, fun e' he' hle => ?_, fun y hy hly hw => ?_, fun t z hz hno => ?_⟩ goodNext fuelNext
            · by_cases hee : e'.i = e.i
              · have := distE.eq oe.dist he he' hee
                subst this
                refine ⟨x, l, if_pos rfl, fun _ => hpr, fun ⟨j, hj, hl⟩ => ?_⟩
                exfalso
                obtain ⟨_, hE, hbit⟩ := oe.two e' he' j hj
                have hlj : listed.getD j false = true := ((hset _).1 hl).resolve_left fun h => by
                  have := isE_iff.2 ⟨e', he', hei.trans h.symm⟩
                  rw [hE] at this
                  cases this
                have := hg.waits hbit fun e he => hg.closed j hlj e he
                rw [hei, hun'] at this
                cases this
              · have : upd ob e.i (x, l) e'.i = ob e'.i := if_neg hee
                rw [this]
                exact keepE hnw e' he' (by rw [← hei]; exact hee) hle
            · by_cases hy' : y.i = it.i
              · rw [hsame y hy hy']
                have : valE es (upd ob e.i (x, l)) it = x := by
                  unfold valE
                  rw [if_pos (isE_iff.2 ⟨e, he, hei⟩), show upd ob e.i (x, l) it.i = some (x, l) from if_pos hei.symm]
                  rfl
                rw [this, ← hed', get_cons_self]
              · have hd := hdist y hy hy'
                rw [← hed'] at hd
                rw [get_cons_ne _ _ hd.symm, hget]
                have : valE es (upd ob e.i (x, l)) y = valE es ob y := by
                  unfold valE
                  rw [show upd ob e.i (x, l) y.i = ob y.i from if_neg (by rw [hei]; exact hy')]
                rw [this]
                exact h1 y hy (((hset _).1 hly).resolve_left hy') hw
            · have hd : it.d ≠ t := hno it hit ((hset _).2 (.inl rfl))
              rw [← hed'] at hd
              rw [get_cons_ne _ _ hd, hget]
              exact h2 t z hz fun y hy hly => hno y hy ((hset _).2 (.inr hly))
          · have hhold := hold needs hneeds
            have hget := get_needs hhold
            obtain ⟨_, hE, hbit⟩ := oe.two e he it.i hej
            have hle := hg.waits hbit hedges
            obtain ⟨x, l, k1, k2, _⟩ := h0 e he hle
            have hpr := k2 fun j hj => by rw [hej] at hj; cases hj; exact hun'
            obtain ⟨ite, hite, hie, hde⟩ := oe.at' e he
            have hslot : get fr e.d = some x := by
              have := h1 ite hite (hie ▸ hle) (oe.noW (isE_iff.2 ⟨e, he, hie.symm⟩))
              rw [hde] at this
              rw [this]
              unfold valE
              rw [if_pos (isE_iff.2 ⟨e, he, hie.symm⟩), hie, k1]
              rfl
            have hget' : ∀ t, get ((e.d, x) :: (needs ++ fr)) t = get fr t := by
              intro t
              by_cases ht : e.d = t
              · subst ht; rw [get_cons_self, hslot]
              · rw [get_cons_ne _ _ ht, hget]
            have same : upd ob e.i (x, l) = ob := by
              funext j
              unfold upd
              split
              · rename_i h; subst h; exact k1.symm
              · rfl
            have hH : (hpE es ob H).set e.id l = hpE es ob H := by rw [hpE_put (x := x) oe.dist he, same]
            have hr' : R C F ⟨(e.d, x) :: (needs ++ fr), (hpE es ob H).set e.id l⟩ a w := by
              rw [hH]
              exact hr.frame fun t z hz => ⟨z, by rw [← hget']; exact hz, fun _ _ h => h⟩
            have hone := hrun.at ob fr x l hpr F a w hr'
            rw [wpOps_cons] at hone
            refine wpOp_post (Q1 := SingleW e x ((e.d, x) :: (needs ++ fr)) ((hpE es ob H).set e.id l)) (fun e s h => h.1) hone fun a' w' ⟨F', s', hr2, _, l', hpr', hs'⟩ => ?_
            subst hs'
            rw [List.set_set, hpE_put (x := x) oe.dist he] at hr2
            have hobx : ∀ i, gotX (upd ob e.i (x, l') i) = gotX (ob i) := by
              intro i
              unfold upd
              split
              · rename_i h; subst h; rw [k1]; rfl
              · rfl
            refine ih _ a' w' ⟨F', _, upd ob e.i (x, l'), hr2, fun e' he' hle' => ?_, fun y hy hly hw => ?_, fun t z hz hno => ?_⟩ goodNext fuelNext
            · by_cases hee : e'.i = e.i
              · have := distE.eq oe.dist he he' hee
                subst this
                refine ⟨x, l', if_pos rfl, fun hno => ?_, fun _ => hpr'⟩
                have := hno it.i hej
                rw [(hset it.i).2 (.inl rfl)] at this
                cases this
              · have : upd ob e.i (x, l') e'.i = ob e'.i := if_neg hee
                rw [this]
                have hne : e'.i ≠ it.i := fun h => by
                  have := isE_iff.2 ⟨e', he', h⟩
                  rw [hE] at this
                  cases this
                obtain ⟨x2, l2, m1, m2, m3⟩ := h0 e' he' (((hset _).1 hle').resolve_left hne)
                refine ⟨x2, l2, m1, fun hno => m2 fun j hj => ?_, fun ⟨j, hj, hl⟩ => m3 ⟨j, hj, ((hset _).1 hl).resolve_left fun h => ?_⟩⟩
                · cases hb : listed.getD j false with
                  | false => rfl
                  | true => have := hno j hj; rw [(hset j).2 (.inr hb)] at this; cases this
                · subst h
                  exact hee (oe.two' e he e' he' _ hej hj)
            · have hy' : y.i ≠ it.i := fun h => by
                have := isW_iff.2 ⟨e, he, hej⟩
                rw [← h, hw] at this
                cases this
              rw [hget']
              have : valE es (upd ob e.i (x, l')) y = valE es ob y := by
                unfold valE
                rw [hobx]
              rw [this]
              exact h1 y hy (((hset _).1 hly).resolve_left hy') hw
            · rw [hget']
              exact h2 t z hz fun y hy hly => hno y hy ((hset _).2 (.inr hly))
        · exfalso
          obtain ⟨it, hit, hu⟩ := hex
          have := hg.waits (ok.wait i h it hit) hedges
          rw [this] at hu
          cases hu

/-! ### the way it is written -/
def DrawE (C : Cx P n) (ops : Array Oper) (L0 : List Nat) (H : List Ar) (fr0 : List (Nat × AV)) (Q : Post) (es : List Early) (r : List Item) : Prop :=
  (∀ it ∈ r.reverse, okE C ops H fr0 r.reverse es it) → Drawn C ops L0 Q ⟨fr0, H⟩
theorem Drawn.calmE (es : List Early) {ops : Array Oper} {L0 : List Nat} (k : DrawE C ops L0 s.hp s.fr Q es []) : Drawn C ops L0 Q s := k fun _ h => by cases h

theorem okE_mono {ops : Array Oper} {H : List Ar} {fr0 : List (Nat × AV)} {its more : List Item} {es : List Early} {it : Item} (h : okE C ops H fr0 its es it) : okE C ops H fr0 (its ++ more) es it := by
  rcases h with ⟨h1, h0, needs, h2, h3⟩ | ⟨e, he, h1, h2, needs, h3, h4⟩ | ⟨e, he, h1, h2, h5, needs, h3, h4⟩
  · exact .inl ⟨h1, h0, needs, needsOf_mono h2, h3⟩
  · exact .inr (.inl ⟨e, he, h1, h2, needs, needsOf_mono h3, h4⟩)
  · exact .inr (.inr ⟨e, he, h1, h2, h5, needs, needsOf_mono h3, h4⟩)

theorem DrawE.op (i d len : Nat) (nd : List (Nat × Option Nat)) {ops : Array Oper} {L0 : List Nat} {H : List Ar} {fr0 : List (Nat × AV)} {es : List Early} {r : List Item} {needs : List (Nat × AV)} {x : AV} (hlen : r.length = len) (hn : needsR r fr0 nd = some needs) (hc : isE es i = false) (hw : isW es i = false)
    (h : EachE (fun H' => ∀ rest, Run C ops [i] (Single d x (needs ++ rest) H') ⟨needs ++ rest, H'⟩) es H) (k : DrawE C ops L0 H fr0 Q es (⟨i, d, turn len nd, x⟩ :: r)) : DrawE C ops L0 H fr0 Q es r := by
  subst hlen
  intro hs
  refine k fun it hit => ?_
  rw [List.reverse_cons] at hit ⊢
  rcases List.mem_append.1 hit with hit | hit
  · exact okE_mono (hs it hit)
  · simp only [List.mem_singleton] at hit
    subst hit
    exact .inl ⟨hc, hw, needs, needsOf_mono (needsR_eq hn), h⟩

theorem DrawE.early (i d len : Nat) (nd : List (Nat × Option Nat)) (j : Nat) {ops : Array Oper} {L0 : List Nat} {H : List Ar} {fr0 : List (Nat × AV)} {es : List Early} {r : List Item} {needs : List (Nat × AV)} {e : Early} (hlen : r.length = len) (hn : needsR r fr0 nd = some needs) (he : es[j]? = some e) (hi : e.i = i) (hd : e.d = d)
    (h : EachE (fun H' => ∀ rest, Run C ops [i] (SingleE e (needs ++ rest) H') ⟨needs ++ rest, H'⟩) es H) (k : DrawE C ops L0 H fr0 Q es (⟨i, d, turn len nd, .junk⟩ :: r)) : DrawE C ops L0 H fr0 Q es r := by
  subst hlen
  intro hs
  refine k fun it hit => ?_
  rw [List.reverse_cons] at hit ⊢
  rcases List.mem_append.1 hit with hit | hit
  · exact okE_mono (hs it hit)
  · simp only [List.mem_singleton] at hit
    subst hit
    exact .inr (.inl ⟨e, List.mem_of_getElem? he, hi, hd, needs, needsOf_mono (needsR_eq hn), h⟩)
/-- The write that comes behind an early new block. -/
theorem DrawE.late (i d len : Nat) (nd : List (Nat × Option Nat)) (j : Nat) {ops : Array Oper} {L0 : List Nat} {H : List Ar} {fr0 : List (Nat × AV)} {es : List Early} {r : List Item} {needs : List (Nat × AV)} {e : Early} (hlen : r.length = len) (hn : needsR r fr0 nd = some needs) (he : es[j]? = some e) (hi : e.i2 = some i) (hc : isE es i = false)
    (h : EachE (fun H' => ∀ rest x l, e.pr x l → Run C ops [i] (SingleW e x ((e.d, x) :: (needs ++ rest)) (H'.set e.id l)) ⟨(e.d, x) :: (needs ++ rest), H'.set e.id l⟩) es H) (k : DrawE C ops L0 H fr0 Q es (⟨i, d, turn len nd, .junk⟩ :: r)) : DrawE C ops L0 H fr0 Q es r := by
  subst hlen
  intro hs
  refine k fun it hit => ?_
  rw [List.reverse_cons] at hit ⊢
  rcases List.mem_append.1 hit with hit | hit
  · exact okE_mono (hs it hit)
  · simp only [List.mem_singleton] at hit
    subst hit
    exact .inr (.inr ⟨e, List.mem_of_getElem? he, hi, hc, rfl, needs, needsOf_mono (needsR_eq hn), h⟩)

def TailE (K : St → Prop) : List Early → St → Prop
  | [], s => K s
  | e :: es, s => ∀ x l, e.fin x l → TailE K es ⟨(e.d, x) :: s.fr, s.hp.set e.id l⟩
theorem TailE.at {K : St → Prop} {ob : Got} : ∀ {es : List Early} {s : St}, TailE K es s → (∀ e ∈ es, ∃ x l, ob e.i = some (x, l) ∧ e.fin x l) → K ⟨frE es ob s.fr, hpE es ob s.hp⟩
  | [], _, h, _ => h
  | e :: es, s, h, hob => by
    obtain ⟨x, l, h1, h2⟩ := hob e (by simp)
    have := TailE.at (h x l h2) fun e he => hob e (by simp [he])
    simp only [frE, hpE, h1, gotX, gotL]
    exact this
theorem get_frE {ob : Got} {t : Nat} {x : AV} : ∀ {es : List Early} {fr : List (Nat × AV)}, get (frE es ob fr) t = some x → (∃ e ∈ es, e.d = t ∧ x = gotX (ob e.i)) ∨ ((∀ e ∈ es, e.d ≠ t) ∧ get fr t = some x)
  | [], fr, h => .inr ⟨(fun _ h => by cases h), h⟩
  | e :: es, fr, h => by
    simp only [frE] at h
    rcases get_frE h with ⟨e', he, h1⟩ | ⟨h1, h2⟩
    · exact .inl ⟨e', by simp [he], h1⟩
    · by_cases hd : e.d = t
      · subst hd
        rw [get_cons_self] at h2
        cases h2
        exact .inl ⟨e, by simp, rfl, rfl⟩
      · rw [get_cons_ne _ _ hd] at h2
        refine .inr ⟨fun e' he => ?_, h2⟩
        rcases List.mem_cons.1 he with rfl | he
        · exact hd
        · exact h1 e' he

abbrev EKey := Nat × Nat × Nat × Option Nat
def Early.key (e : Early) : EKey := (e.i, e.d, e.id, e.i2)
def distB : List EKey → Bool
  | [] => true
  | e :: es => es.all (fun e' => !(e'.2.2.1 == e.2.2.1) && !(e'.1 == e.1) && (match e'.2.2.2, e.2.2.2 with
    | some j, some j' => !(j == j')
    | _, _ => true)) && distB es
def earlyB (ops : Array Oper) (ks : List Key) (ek : List EKey) : Bool :=
  distB ek && ek.all (fun e => ks.any fun k => k.1 == e.1 && k.2.1 == e.2.1) &&
  ks.all (fun k => k.2.2.all fun (_, src) => match src with
    | some q => match ks[q]? with
      | some k' => ek.all fun e => !(e.1 == k'.1) && !(e.2.2.2 == some k'.1)
      | none => true
    | none => true) &&
  ek.all (fun e => match e.2.2.2 with
    | some j => ks.any (fun k => k.1 == j) && ek.all (fun e' => !(e'.1 == j)) && ((masks ops ops.size).getD j 0).testBit e.1
    | none => true)
theorem earlyB_spec {ops : Array Oper} {its : List Item} {es : List Early} (h : earlyB ops (its.map Item.key) (es.map Early.key) = true) : EarlyOk ops its es := by
  simp only [earlyB, Bool.and_eq_true] at h
  obtain ⟨⟨⟨h1, h2⟩, h3⟩, h4⟩ := h
  have dist : distE es ∧ ∀ e ∈ es, ∀ e' ∈ es, ∀ j, e.i2 = some j → e'.i2 = some j → e'.i = e.i := by
    clear h2 h3 h4
    induction es with
    | nil => exact ⟨trivial, fun _ h => by cases h⟩
    | cons e es ih =>
      simp only [List.map_cons, distB, Bool.and_eq_true, List.all_eq_true, List.mem_map, Bool.not_eq_true', beq_eq_false_iff_ne] at h1
      obtain ⟨k1, k2⟩ := ih h1.2
      have hne : ∀ e' ∈ es, ∀ j, e.i2 = some j → e'.i2 = some j → False := fun e' he' j hj hj' => by
        have := (h1.1 _ ⟨e', he', rfl⟩).2
        simp [Early.key, hj, hj'] at this
      refine ⟨⟨fun e' he => ((h1.1 _ ⟨e', he, rfl⟩).1), k1⟩, fun a ha b hb j hj hj' => ?_⟩
      rcases List.mem_cons.1 ha with h1 | h1 <;> rcases List.mem_cons.1 hb with h2 | h2
      · rw [h1, h2]
      · exact (hne b h2 j (h1 ▸ hj) hj').elim
      · exact (hne a h1 j (h2 ▸ hj') hj).elim
      · exact k2 a h1 b h2 j hj hj'
  refine ⟨dist.1, fun e he => ?_, fun it hit t q y hm hy => ?_, fun e he j hj => ?_, dist.2⟩
  · rw [List.all_eq_true] at h2
    have := h2 _ (List.mem_map.2 ⟨e, he, rfl⟩)
    simp only [List.any_eq_true, List.mem_map, Bool.and_eq_true, beq_iff_eq] at this
    obtain ⟨k, ⟨it, hit, rfl⟩, h4, h5⟩ := this
    exact ⟨it, hit, h4, h5⟩
  · rw [List.all_eq_true] at h3
    have := h3 _ (List.mem_map.2 ⟨it, hit, rfl⟩)
    rw [List.all_eq_true] at this
    have := this (t, some q) hm
    simp only [List.getElem?_map, hy, Option.map_some, List.all_eq_true, List.mem_map, Bool.and_eq_true, Bool.not_eq_true', beq_eq_false_iff_ne] at this
    constructor
    · cases hb : isE es y.i with
      | false => rfl
      | true =>
        obtain ⟨e, he, hi⟩ := isE_iff.1 hb
        exact absurd hi (this _ ⟨e, he, rfl⟩).1
    · cases hb : isW es y.i with
      | false => rfl
      | true =>
        obtain ⟨e, he, hi⟩ := isW_iff.1 hb
        exact absurd hi (this _ ⟨e, he, rfl⟩).2
  · rw [List.all_eq_true] at h4
    have := h4 _ (List.mem_map.2 ⟨e, he, rfl⟩)
    simp only [Early.key, hj, Bool.and_eq_true, List.any_eq_true, List.mem_map, beq_iff_eq, List.all_eq_true, Bool.not_eq_true', beq_eq_false_iff_ne] at this
    obtain ⟨⟨⟨k, ⟨it, hit, rfl⟩, k2⟩, k3⟩, k4⟩ := this
    refine ⟨⟨it, hit, k2⟩, ?_, k4⟩
    cases hb : isE es j with
    | false => rfl
    | true =>
      obtain ⟨e', he', hi⟩ := isE_iff.1 hb
      exact absurd hi (k3 _ ⟨e', he', rfl⟩)

theorem HSub.ofHpE (H : List Ar) : ∀ es : List Early, HSub H (hpE es (fun _ => none) H) := by
  intro es
  have dead : ∀ (H : List Ar) (k : Nat), HSub H (H.set k []) := by
    intro H
    induction H with
    | nil => intro k; exact .nil
    | cons x H ih =>
      intro k
      cases k with
      | zero => exact .dead (HSub.refl H)
      | succ k => exact .keep (ih k)
  have trans : ∀ {A B D : List Ar}, HSub A B → HSub B D → HSub A D := by
    intro A B D h1
    induction h1 generalizing D with
    | nil => exact fun h => h
    | dead h ih =>
      intro h2
      cases h2 with
      | dead h2 => exact .dead (ih h2)
      | keep h2 => exact .dead (ih h2)
    | keep h ih =>
      intro h2
      cases h2 with
      | dead h2 => exact .dead (ih h2)
      | keep h2 => exact .keep (ih h2)
  induction es generalizing H with
  | nil => exact HSub.refl H
  | cons e es ih => exact trans (dead H e.id) (ih _)

theorem Sub.refl' {F : Nat → Prop} {a : Act} {w : World} {H H' : List Ar} {fr : List (Nat × AV)} (hr : R C F ⟨fr, H⟩ a w) (h : HSub H H') : R C F ⟨fr, H'⟩ a w :=
  { hr with sat := ⟨hr.sat.old, fun hx => hr.sat.live (h.at' hx), fun hx hy => hr.sat.inj (h.at' hx) (h.at' hy)⟩ }

theorem R.frameJ {F : Nat → Prop} {a : Act} {w : World} {fr fr' : List (Nat × AV)} {H : List Ar} (hr : R C F ⟨fr, H⟩ a w) (h : ∀ t x, get fr' t = some x → x = .junk ∨ get fr t = some x) : R C F ⟨fr', H⟩ a w :=
  ⟨hr.size, hr.defers, fun t x hx => by
    rcases h t x hx with rfl | h
    · simp only [rel]
    · exact hr.fr t x h, hr.sat, hr.os, hr.tape, hr.output, hr.hsize, hr.block, hr.F0, hr.F1, hr.elder⟩

/-- All has come but the tail: what is known then. -/
theorem DrawE.fin (tl : List Nat) {ops : Array Oper} {L0 : List Nat} {H : List Ar} {fr0 : List (Nat × AV)} {es : List Early} {r : List Item} {ks : List Key} {ek : List EKey} (hk : keysR r = ks) (hek : es.map Early.key = ek) (hb : drawB0 ops L0 ks tl = true) (heb : earlyB ops ks ek = true)
    (k : ∀ ob : Got, (∀ e ∈ es, ∃ x l, ob e.i = some (x, l) ∧ e.fin x l) → ∀ F a w, R C F ⟨frE es ob (puts r fr0), hpE es ob H⟩ a w → ∀ fuel, tl.length ≤ fuel → wpAny P .any ops (NoPanic (lift C Q)) fuel (arr ops.size (L0 ++ ks.map (·.1))) a w) : DrawE C ops L0 H fr0 Q es r := by
  intro hs F a w hr fuel hf
  have hks : r.reverse.map Item.key = ks := by rw [← keysR_eq, hk]
  have ok := drawB_spec (its := r.reverse) (by rw [hks]; exact hb)
  have oe : EarlyOk ops r.reverse es := earlyB_spec (by rw [hks, hek]; exact heb)
  have hbase : r.reverse.map (·.i) = ks.map (·.1) := by rw [← hks, List.map_map]; rfl
  have hget : ∀ i, (arr ops.size L0).getD i false = true ↔ i ∈ L0 ∧ i < ops.size := by
    intro i
    by_cases hi : i < ops.size
    · rw [arr_getD false hi]
      simp [hi]
    · rw [Array.getD_eq_getD_getElem?, Array.getElem?_eq_none (by rw [arr_size]; omega)]
      simp [hi]
  have uniq : ∀ y ∈ r.reverse, ∀ z ∈ r.reverse, y.d = z.d → y = z := by
    intro y hy z hz hd
    obtain ⟨p, hp⟩ := List.mem_iff_getElem?.1 hy
    obtain ⟨q, hq⟩ := List.mem_iff_getElem?.1 hz
    rcases Nat.lt_trichotomy p q with h | h | h
    · exact absurd hd (ok.dist q p z y hq hp h).2
    · subst h; rw [hp] at hq; cases hq; rfl
    · exact absurd hd.symm (ok.dist p q y z hp hq h).2
  refine drawE_main (P := P) ok oe hs (fun a w ⟨F, fr, ob, hr, h0, h1, h2⟩ fuel hfl => ?_) fuel (arr ops.size L0) a w ⟨F, fr0, fun _ => none, Sub.refl' hr (HSub.ofHpE H es), fun e he hl => ?_, fun it hit hl => ?_, fun t x hx _ => hx⟩ ⟨arr_size _ _, fun i hi => (hget i).2 ⟨hi, (ok.L0c i hi).1⟩, fun t ht => ?_, fun i hi e he => ?_⟩ ?_
  · rw [hbase]
    refine k ob h0 F a w (hr.frameJ fun t x hx => ?_) fuel hfl
    rcases get_frE hx with ⟨e, he, rfl, rfl⟩ | ⟨h3, h4⟩
    · right
      obtain ⟨it, hit, hi, hd⟩ := oe.at' e he
      rw [← hd, h1 it hit (oe.noW (isE_iff.2 ⟨e, he, hi.symm⟩))]
      unfold valE
      rw [if_pos (isE_iff.2 ⟨e, he, hi.symm⟩), hi]
    · simp only [puts_eq] at h4
      rcases get_ends fr0 r t x h4 with ⟨it, hit, rfl, rfl⟩ | ⟨h5, h6⟩
      · have hit' : it ∈ r.reverse := by simpa using hit
        rcases hs it hit' with ⟨_, hnw, _⟩ | ⟨e, he, hei, hed, _⟩ | ⟨_, _, _, _, hx, _⟩
        rotate_left
        · exact absurd hed (h3 e he)
        · exact .inl hx
        right
        rw [h1 it hit' hnw]
        unfold valE
        have : isE es it.i = false := by
          cases hb : isE es it.i with
          | false => rfl
          | true =>
            obtain ⟨e, he, hi⟩ := isE_iff.1 hb
            obtain ⟨it2, hit2, hi2, hd2⟩ := oe.at' e he
            have : it2 = it := by
              obtain ⟨p, hp⟩ := List.mem_iff_getElem?.1 hit2
              obtain ⟨q, hq⟩ := List.mem_iff_getElem?.1 hit'
              rcases Nat.lt_trichotomy p q with h | h | h
              · exact absurd (hi2.trans hi) (ok.dist q p it it2 hq hp h).1
              · subst h; rw [hp] at hq; cases hq; rfl
              · exact absurd (hi2.trans hi).symm (ok.dist p q it2 it hp hq h).1
            subst this
            exact absurd hd2.symm (h3 e he)
        rw [this]
        rfl
      · exact .inr (h2 t x h6 fun it hit => h5 it (by simpa using hit))
  · obtain ⟨it, hit, hi, _⟩ := oe.at' e he
    exact absurd ((hget _).1 hl).1 (hi ▸ (ok.cl0 it hit).1)
  · exact absurd ((hget _).1 hl).1 (ok.cl0 it hit).1
  · cases hb : (arr ops.size L0).getD t false with
    | false => rfl
    | true => exact absurd ((hget t).1 hb).1 (ok.tl0 t ht).1
  · have h1 := ((hget i).1 hi).1
    have h2 := (ok.L0c i h1).2 e he
    exact (hget e).2 ⟨h2, (ok.L0c e h2).1⟩
  · have := List.length_filter_le (fun it : Item => !(arr ops.size L0).getD it.i false) r.reverse
    have := ok.few
    omega

theorem np_no {e : Exit} {a : Act} {w : World} (h : lift C (np Q) e a w) : NoPanic (lift C Q) e a w := by
  cases e with
  | panic c => obtain ⟨F, s, _, hq⟩ := h; exact hq.elim
  | _ => exact h
theorem DrawE.tail (tl : List Nat) {ops : Array Oper} {L0 : List Nat} {H : List Ar} {fr0 : List (Nat × AV)} {es : List Early} {r : List Item} {ks : List Key} {ek : List EKey} (hk : keysR r = ks) (hek : es.map Early.key = ek) (hb : drawB ops L0 ks tl = true) (heb : earlyB ops ks ek = true)
    (k : TailE (Run C ops tl (np Q)) es ⟨puts r fr0, H⟩) : DrawE C ops L0 H fr0 Q es r := by
  simp only [drawB, Bool.and_eq_true] at hb
  refine DrawE.fin tl hk hek hb.1 heb fun ob hob F a w hr fuel hfl => ?_
  have hlt : ∀ t ∈ tl, t < ops.size := fun t ht => by
    have h := hb.1
    simp only [drawB0, Bool.and_eq_true, List.all_eq_true] at h
    obtain ⟨⟨⟨⟨⟨⟨⟨_, h2⟩, _⟩, _⟩, _⟩, _⟩, _⟩, _⟩ := h
    exact Nat.blt_eq.mp (h2 t ht).2
  have ht := tail_any (P := P) (Q2 := NoPanic (lift C Q)) hb.2 hlt fuel 0 a w (by omega) (by omega)
  rw [List.take_zero, List.append_nil, List.drop_zero] at ht
  exact ht (wpOps_mono (fun _ _ _ => np_no) tl a w (k.at hob F a w hr))

/-- A new variable | with the write of its first value. -/
def alloc0E (i d id : Nat) (zs : List AV) : Early := ⟨i, d, id, fun x l => ∃ b, x = .adr id b 0 ∧ l = [(b, zs)], none, fun _ _ => True⟩
def allocE (i d id i2 : Nat) (zs : List AV) {vs : List AV} : Early := ⟨i, d, id, fun x l => ∃ b, x = .adr id b 0 ∧ l = [(b, zs)], some i2, fun x l => ∃ b, x = .adr id b 0 ∧ l = [(b, vs)]⟩
/-- An empty list. -/
def emptyE (i d id m : Nat) : Early := ⟨i, d, id, fun x l => ∃ b, x = .own id b m 0 0 0 false ∧ l = [(b, [])], none, fun _ _ => True⟩

/-- Slots that are read no more are forgotten; the places are written out. -/
theorem WP.trim {c : Code} {fr' : List (Nat × AV)} {H' : List Ar} (k : WP C c Q ⟨fr', H'⟩) (h : Sub s.fr fr') (hH : s.hp = H') : WP C c Q s := WP.keep k h (by rw [hH]; exact HSub.refl _)

theorem LP.trim {c : Code} {fr' : List (Nat × AV)} {H' : List Ar} (k : LP C c Q ⟨fr', H'⟩) (h : Sub s.fr fr') (hH : s.hp = H') : LP C c Q s := LP.keep k h (by rw [hH]; exact HSub.refl _)

/-! ### others that come in more than one order -/
def RunT (C : Cx P n) (ops : Array Oper) (Q : Post) : Nat → Array Bool → St → Prop
  | 0, listed, s => Region.ready .any ops listed = [] ∧ Q .normal s
  | f + 1, listed, s => (Region.ready .any ops listed = [] → Q .normal s) ∧ ∀ i ∈ Region.ready .any ops listed, Run C ops [i] (after (RunT C ops Q f (listed.setIfInBounds i true)) Q) s
theorem wpOp_then {ops : Array Oper} {i : Nat} {next : St → Prop} {K : Act → World → Prop} {a : Act} {w : World}
    (hh : wpOp P ops (lift C (after next Q)) i (wpOps P ops (lift C (after next Q)) []) a w) (hk : ∀ a' w', lift C (after next Q) .normal a' w' → K a' w') : wpOp P ops (lift C Q) i K a w := by
  unfold wpOp at hh ⊢
  split at hh
  · exact hk _ _ hh
  · rename_i o ho
    split at hh
    · rename_i hw
      simp only [hw, if_true]
      rcases hh with h1 | ⟨h1, a0, w0, F0, s0, h2, hq⟩
      · refine .inl ?_
        have h2 := Oper.wp_mono (K' := K) (fun a' w' h => hk a' w' h) h1
        unfold Oper.wp at h2 ⊢
        generalize (execOp a.eval o).run P w = r at h2 ⊢
        cases r with
        | ok nx w' =>
          cases nx <;> simp only [Oper.upon] at h2 ⊢ <;> first
            | exact h2
            | exact Calls.mono h2 (fun e w'' he => by
                cases e with
                | returned v => exact he
                | panicked c => exact he
                | outgrown => exact he)
        | halt hh w' =>
          cases hh <;> simp only [Oper.upon] at h2 ⊢
          all_goals exact h2
      · exact .inr ⟨h1, a0, w0, F0, s0, h2, hq⟩
    · rename_i hw
      simp only [hw]
      exact hk _ _ hh
theorem RunT.any {ops : Array Oper} : ∀ (f : Nat) (listed : Array Bool) (s : St) (F : Nat → Prop) (a : Act) (w : World), R C F s a w → RunT C ops Q f listed s → wpAny P .any ops (lift C Q) f listed a w
  | 0, listed, s, F, a, w, hr, h => ⟨h.1, F, s, hr, h.2⟩
  | f + 1, listed, s, F, a, w, hr, h => ⟨fun h0 => ⟨F, s, hr, h.1 h0⟩, fun i hi => by
    have h1 := h.2 i hi F a w hr
    rw [wpOps_cons] at h1
    exact wpOp_then h1 fun a' w' ⟨F', s', hr', hn⟩ => RunT.any f _ s' F' a' w' hr' hn⟩
theorem wpAny_mono {ops : Array Oper} {Q1 Q2 : Exit → Act → World → Prop} (hq : ∀ e a w, Q1 e a w → Q2 e a w) : ∀ (f : Nat) (listed : Array Bool) (a : Act) (w : World), wpAny P .any ops Q1 f listed a w → wpAny P .any ops Q2 f listed a w
  | 0, _, a, w, h => ⟨h.1, hq _ _ _ h.2⟩
  | f + 1, listed, a, w, h => ⟨fun h0 => hq _ _ _ (h.1 h0), fun i hi => by
    have h1 := h.2 i hi
    unfold wpOp at h1 ⊢
    split at h1
    · exact wpAny_mono hq f _ _ _ h1
    · rename_i o ho
      split at h1
      · rename_i hw
        simp only [hw, if_true]
        rcases h1 with h1 | ⟨h1, a0, w0, h2⟩
        · refine .inl ?_
          have h2 := Oper.wp_mono (K' := wpAny P .any ops Q2 f (listed.setIfInBounds i true)) (fun a' w' h => wpAny_mono hq f _ a' w' h) h1
          unfold Oper.wp at h2 ⊢
          generalize (execOp a.eval o).run P w = r at h2 ⊢
          cases r with
          | ok nx w' =>
            cases nx <;> simp only [Oper.upon] at h2 ⊢ <;> first
              | exact h2
              | exact Calls.mono h2 (fun e w'' he => by
                  cases e with
                  | returned v => exact he
                  | panicked c => exact hq _ _ _ he
                  | outgrown => obtain ⟨a1, w1, he⟩ := he; exact ⟨a1, w1, hq _ _ _ he⟩)
          | halt hh w' =>
            cases hh <;> simp only [Oper.upon] at h2 ⊢
            all_goals first
              | exact h2
              | exact hq _ _ _ h2
        · exact .inr ⟨h1, a0, w0, hq _ _ _ h2⟩
      · rename_i hw
        simp only [hw]
        exact wpAny_mono hq f _ _ _ h1⟩

/-- The others, in each order in which they may come. -/
theorem DrawE.tree (tl : List Nat) (N : Nat) {ops : Array Oper} {L0 : List Nat} {H : List Ar} {fr0 : List (Nat × AV)} {es : List Early} {r : List Item} {ks : List Key} {ek : List EKey} (hk : keysR r = ks) (hek : es.map Early.key = ek) (hb : drawB0 ops L0 ks tl = true) (heb : earlyB ops ks ek = true) (hN : tl.length = N)
    (k : TailE (fun s => ∀ f, RunT C ops (np Q) (f + N) (arr ops.size (L0 ++ ks.map (·.1))) s) es ⟨puts r fr0, H⟩) : DrawE C ops L0 H fr0 Q es r := by
  refine DrawE.fin tl hk hek hb heb fun ob hob F a w hr fuel hfl => ?_
  subst hN
  obtain ⟨f, rfl⟩ := Nat.exists_eq_add_of_le' hfl
  exact wpAny_mono (fun _ _ _ => np_no) _ _ a w (RunT.any _ _ _ F a w hr (k.at hob f))

section tree
variable {ops : Array Oper} {f : Nat} {listed : Array Bool}
theorem RunT.done (hr : Region.ready .any ops listed = []) (h : Q .normal s) : RunT C ops Q f listed s := by
  cases f with
  | zero => exact ⟨hr, h⟩
  | succ f => exact ⟨fun _ => h, fun i hi => by rw [hr] at hi; cases hi⟩
theorem RunT.one (i : Nat) (hr : Region.ready .any ops listed = [i]) (k : Run C ops [i] (after (RunT C ops Q f (listed.setIfInBounds i true)) Q) s) : RunT C ops Q (f + 1) listed s :=
  ⟨fun h => (by rw [hr] at h; cases h), fun j hj => by
    rw [hr] at hj
    simp only [List.mem_singleton] at hj
    subst hj
    exact k⟩
theorem RunT.two (i j : Nat) (hr : Region.ready .any ops listed = [i, j]) (k1 : Run C ops [i] (after (RunT C ops Q f (listed.setIfInBounds i true)) Q) s) (k2 : Run C ops [j] (after (RunT C ops Q f (listed.setIfInBounds j true)) Q) s) : RunT C ops Q (f + 1) listed s :=
  ⟨fun h => (by rw [hr] at h; cases h), fun x hx => by
    rw [hr] at hx
    simp only [List.mem_cons, List.not_mem_nil, or_false] at hx
    rcases hx with rfl | rfl
    · exact k1
    · exact k2⟩
theorem RunT.three (i j l : Nat) (hr : Region.ready .any ops listed = [i, j, l]) (k1 : Run C ops [i] (after (RunT C ops Q f (listed.setIfInBounds i true)) Q) s) (k2 : Run C ops [j] (after (RunT C ops Q f (listed.setIfInBounds j true)) Q) s)
    (k3 : Run C ops [l] (after (RunT C ops Q f (listed.setIfInBounds l true)) Q) s) : RunT C ops Q (f + 1) listed s :=
  ⟨fun h => (by rw [hr] at h; cases h), fun x hx => by
    rw [hr] at hx
    simp only [List.mem_cons, List.not_mem_nil, or_false] at hx
    rcases hx with rfl | rfl | rfl
    · exact k1
    · exact k2
    · exact k3⟩
/-- All orders come to one state. -/
theorem RunT.cut1 {S : Nat → St} (h : (∀ x, Q .normal (S x)) → RunT C ops Q f listed s) (main : ∀ x, Q .normal (S x)) : RunT C ops Q f listed s := h main
theorem RunT.cut2 {S : Nat → Nat → St} (h : (∀ x y, Q .normal (S x y)) → RunT C ops Q f listed s) (main : ∀ x y, Q .normal (S x y)) : RunT C ops Q f listed s := h main
theorem RunT.cut3 {S : Nat → Nat → Nat → St} (h : (∀ x y z, Q .normal (S x y z)) → RunT C ops Q f listed s) (main : ∀ x y z, Q .normal (S x y z)) : RunT C ops Q f listed s := h main
theorem RunT.cut {s1 : St} (h : Q .normal s1 → RunT C ops Q f listed s) (main : Q .normal s1) : RunT C ops Q f listed s := h main
end tree
end
end Go.Ab
