/-
  THE DATA LEVEL, PART 6: a heap in two parts; the contract of an iterator; the loop over it.
-/
import Derived.Test.YtimnmempnhjbfaaD5
set_option linter.unusedSimpArgs false
set_option linter.unusedVariables false
namespace Go.Dl
open Go Go.RowKit

/-- The part X over the part Hi. -/
def over (Hi X : DHeap) : DHeap := fun r => match X r with
  | some o => some o
  | none => Hi r
def Disj (Hi X : DHeap) : Prop := ∀ r, X r ≠ none → Hi r = none
/-- No block. -/
def h0 : DHeap := fun _ => none

theorem over_h0 (Hi : DHeap) : over Hi h0 = Hi := rfl
theorem h0_over (X : DHeap) : over h0 X = X := by funext r; unfold over h0; cases X r <;> rfl
theorem upd_over (Hi X : DHeap) (r : Nat) (o : DObj) : upd (over Hi X) r (some o) = over Hi (upd X r (some o)) := by
  funext i; simp only [upd, over]; by_cases e : i = r <;> simp [e]
theorem upd_over_none {Hi X : DHeap} {r : Nat} (h : Hi r = none) : upd (over Hi X) r none = over Hi (upd X r none) := by
  funext i; simp only [upd, over]; by_cases e : i = r
  · subst e; simp [h]
  · simp [e]
theorem upd_over_lo {Hi X : DHeap} {r : Nat} (h : X r = none) (o : Option DObj) : upd (over Hi X) r o = over (upd Hi r o) X := by
  funext i; simp only [upd, over]; by_cases e : i = r
  · subst e; simp [h]
  · simp [e]
theorem over_eq_none {Hi X : DHeap} {r : Nat} : over Hi X r = none ↔ Hi r = none ∧ X r = none := by
  unfold over; cases h : X r <;> simp
theorem over_hi {Hi X : DHeap} {r : Nat} (h : X r = none) : over Hi X r = Hi r := by simp [over, h]
theorem over_x {Hi X : DHeap} {r : Nat} {o : DObj} (h : X r = some o) : over Hi X r = some o := by simp [over, h]
theorem upd_eq_none {H : DHeap} {r r' : Nat} {o : DObj} : upd H r (some o) r' = none ↔ r' ≠ r ∧ r ≠ r' ∧ H r' = none := by
  unfold upd; by_cases e : r' = r
  · simp [e]
  · simp [e, Ne.symm e, eq_comm]
theorem h0_none (r : Nat) : h0 r = none := rfl
theorem Disj.h0 (Hi : DHeap) : Disj Hi h0 := fun r h => (h rfl).elim
theorem Disj.hi {Hi X : DHeap} (h : Disj Hi X) {r : Nat} (hr : Hi r = none) (o : Option DObj) : Disj Hi (upd X r o) := by
  intro b hb; by_cases e : b = r
  · subst e; exact hr
  · simp only [Dl.upd, if_neg e] at hb; exact h b hb
theorem Disj.lo {Hi X : DHeap} (h : Disj Hi X) {r : Nat} (hr : X r = none) (o : Option DObj) : Disj (upd Hi r o) X := by
  intro b hb; by_cases e : b = r
  · subst e; exact (hb hr).elim
  · simp only [Dl.upd, if_neg e]; exact h b hb
theorem Disj.x {Hi X : DHeap} (h : Disj Hi X) {r : Nat} (hr : Hi r ≠ none) : X r = none := by
  cases e : X r with
  | none => rfl
  | some o => exact (hr (h r (by simp [e]))).elim

/-- **THE CONTRACT OF AN ITERATOR**: function 'gf' with 'captured' behind yield comes with the data of L, in order, and then ends; its own blocks (they lie in Hi) do not turn in the rounds. 'I k X': k rounds are over, and the loop's own part of the heap is X. 'Ix o X': a round has said 'no more'; o: the loop's record as it is then. -/
def DIter (P : Program) (G : Nat → DVal) (gf : FuncId) (captured : List DVal) (Y : DHeap) (L : List (List DVal)) : Prop :=
  ∀ (l : Nat) (I : Nat → DHeap → Prop) (Ix : Option DObj → DHeap → Prop) (Hi X : DHeap), Disj Hi X → Disj Hi Y → Disj Y X → Y l = none → Hi l ≠ none → I 0 X →
    (∀ k x Hi' X, Disj Hi' X → Hi' l = Hi l → L[k]? = some x → I k X → DYields P G l x (over Hi' X) fun e H' => ∃ X',
      (e = .ret (.bool true) ∧ H' = over Hi' X' ∧ Disj Hi' X' ∧ I (k + 1) X') ∨ (e = .ret (.bool false) ∧ ∃ o, o ≠ none ∧ H' = over (upd Hi' l o) X' ∧ Disj (upd Hi' l o) X' ∧ Ix o X')) →
    DCalls P G gf (.func (.yield l) [] [] :: captured) (over (over Hi Y) X) fun e H' => (∃ v, e = .ret v) ∧ ∃ X',
      (H' = over Hi X' ∧ Disj Hi X' ∧ I L.length X') ∨ (∃ o, o ≠ none ∧ H' = over (upd Hi l o) X' ∧ Disj (upd Hi l o) X' ∧ Ix o X')

section
variable {P : Program} {G : Nat → DVal} {N : Nat} {Q : DExit → DS → Prop}

/-- How a round's body is left, as the loop's invariant sees it. -/
def DBodyQ (Hi : DHeap) (J : DHeap → Prop) (Jx : Code → DHeap → Prop) : DExit → DS → Prop
  | .normal, s => ∃ X, s.heap = over Hi X ∧ Disj Hi X ∧ J X
  | .ret, s => ∃ X, s.heap = over Hi X ∧ Disj Hi X ∧ Jx .ret X
  | .exit id, s => ∃ X, s.heap = over Hi X ∧ Disj Hi X ∧ Jx (.exit id) X
  | .goto t, s => ∃ X, s.heap = over Hi X ∧ Disj Hi X ∧ Jx (.goto t) X
  | .panic _, _ => False

/-- **A LOOP OVER AN ITERATOR.** 'I k X': what the loop's own part of the heap is when k rounds are over; 'Ix c X': a round has left by the jump c. -/
theorem dwp0_range {g : Operand} {ps : Array Tmp} {asg body : Code} {s : DS} {gf : FuncId} {captured : List DVal} {Y : DHeap} {L : List (List DVal)} (hg : dev G s.env g = .func (.func gf) [] captured)
    (hok : (opdOk N g && codeOk N asg && codeOk N body && flat asg && flat body) = true)
    (hit : DIter P G gf captured Y L) (hL : ∀ x ∈ L, x.length = ps.size)
    (Hi X : DHeap) (hs : s.heap = over (over Hi Y) X) (d1 : Disj Hi X) (d2 : Disj Hi Y) (d3 : Disj Y X)
    (I : Nat → DHeap → Prop) (Ix : Code → DHeap → Prop) (h0 : I 0 X)
    (hbody : ∀ k x Hi X, Disj Hi X → L[k]? = some x → I k X → dwp P G N asg (DThen (dwp P G N body (DBodyQ Hi (I (k + 1)) Ix))) ⟨dbind s.env ps.toList x, over Hi X⟩)
    (hdone : ∀ X, Disj Hi X → I L.length X → Q .normal ⟨s.env, over Hi X⟩)
    (hexit : ∀ c X, Disj Hi X → Ix c X → DJump Q c ⟨s.env, over Hi X⟩) : DWp0 P G N (.rangeFunc g ps asg body) Q s := by
  simp only [Bool.and_eq_true] at hok
  obtain ⟨⟨⟨⟨k1, k2⟩, k3⟩, k4⟩, k5⟩ := hok
  refine dwp0_rangeFunc k1 hg fun l D fn hl => ?_
  rw [hs, over_eq_none, over_eq_none] at hl
  obtain ⟨⟨hlH, hlY⟩, hlX⟩ := hl
  have hH : upd s.heap l (some (.loop s.env N (rec0 fn ps asg body D))) = over (over (upd Hi l (some (.loop s.env N (rec0 fn ps asg body D)))) Y) X := by
    rw [hs, upd_over_lo hlX, upd_over_lo hlY]
  rw [hH]
  refine (hit l I (fun o X => ∃ c, o = some (.loop s.env N { rec0 fn ps asg body D with state := .done, pending := some c }) ∧ Ix c X) (upd Hi l (some (.loop s.env N (rec0 fn ps asg body D)))) X (d1.lo hlX _) (d2.lo hlY _) d3 hlY (by simp [upd]) h0 ?_).mono ?_
  · intro k x Hi' X hd hl' hx hI
    have hX : X l = none := hd.x (by rw [hl']; simp [upd])
    have hHl : over Hi' X l = some (.loop s.env N (rec0 fn ps asg body D)) := by rw [over_hi hX, hl']; simp [upd]
    refine dyields_intro hHl rfl rfl (hL x (List.mem_of_getElem? hx)) (by simp only [rec0, Bool.and_eq_true]; exact ⟨⟨⟨k2, k3⟩, k4⟩, k5⟩) _ (by rw [upd_over_lo hX]; exact hbody k x (upd Hi' l none) X (hd.lo hX _) hx hI) ?_
    rintro e ⟨env', heap'⟩ hq hn
    have back : ∀ (X' : DHeap) (o : Option DObj), Disj (upd Hi' l none) X' → X' l = none → Disj (upd Hi' l o) X' := fun X' o h h2 => by
      have := h.lo h2 o; rwa [upd_idem] at this
    have hup : ∀ X', X' l = none → ∀ o, upd (over (upd Hi' l none) X') l o = over (upd Hi' l o) X' := fun X' h o => by
      rw [upd_over_lo h, upd_idem]
    have hid : upd Hi' l (some (.loop s.env N (rec0 fn ps asg body D))) = Hi' := by
      funext b; simp only [upd]; split
      · rename_i e; subst e; rw [hl']; simp [upd]
      · rfl
    cases e with
    | normal =>
      obtain ⟨X', h1, h2, h3⟩ := hq
      simp only at h1 hn; subst h1
      have hx' := (over_eq_none.1 hn).2
      refine ⟨X', .inl ⟨rfl, ?_, ?_, h3⟩⟩
      · rw [hup X' hx', hid]
      · have := back X' (some (.loop s.env N (rec0 fn ps asg body D))) h2 hx'; rw [hid] at this; exact this
    | ret =>
      obtain ⟨X', h1, h2, h3⟩ := hq
      simp only at h1 hn; subst h1
      have hx' := (over_eq_none.1 hn).2
      exact ⟨X', .inr ⟨rfl, some (.loop s.env N { rec0 fn ps asg body D with state := .done, pending := some .ret }), Option.some_ne_none _, hup X' hx' _, back X' _ h2 hx', _, rfl, h3⟩⟩
    | exit id =>
      obtain ⟨X', h1, h2, h3⟩ := hq
      simp only at h1 hn; subst h1
      have hx' := (over_eq_none.1 hn).2
      exact ⟨X', .inr ⟨rfl, some (.loop s.env N { rec0 fn ps asg body D with state := .done, pending := some (.exit id) }), Option.some_ne_none _, hup X' hx' _, back X' _ h2 hx', _, rfl, h3⟩⟩
    | goto t =>
      obtain ⟨X', h1, h2, h3⟩ := hq
      simp only at h1 hn; subst h1
      have hx' := (over_eq_none.1 hn).2
      exact ⟨X', .inr ⟨rfl, some (.loop s.env N { rec0 fn ps asg body D with state := .done, pending := some (.goto t) }), Option.some_ne_none _, hup X' hx' _, back X' _ h2 hx', _, rfl, h3⟩⟩
    | panic v => exact hq.elim
  · rintro e H' ⟨⟨v, rfl⟩, X', (⟨rfl, hd, hi⟩ | ⟨o, ho, rfl, hd, c, rfl, hx⟩)⟩
    · have hX : X' l = none := hd.x (by simp [upd])
      refine ⟨v, rfl, .ready, none, by simp, ?_, ?_⟩
      · rw [over_hi hX]; simp [upd, rec0]
      · simp only [DJumpO]
        rw [upd_over_lo hX, upd_none_self hlH]
        refine hdone X' ?_ hi
        have := hd.lo hX none
        rwa [upd_none_self hlH] at this
    · have hX : X' l = none := hd.x (by simp [upd])
      refine ⟨v, rfl, .done, some c, by simp, ?_, ?_⟩
      · rw [over_hi hX]; simp [upd]
      · simp only [DJumpO]
        rw [upd_over_lo hX, upd_idem, upd_none_self hlH]
        refine hexit c X' ?_ hx
        have := hd.lo hX none
        rwa [upd_idem, upd_none_self hlH] at this
end
end Go.Dl
