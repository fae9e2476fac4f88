/-
  THE DATA LEVEL, PART 8: loops over iterators, ready for use.
-/
import Derived.Test.YtimnmempnhjbfaaD7
set_option linter.unusedSimpArgs false
set_option linter.unusedVariables false
namespace Go.Dl
open Go Go.RowKit

theorem over_upd (Hi X : DHeap) (r r' : Nat) (o : DObj) : over Hi (upd X r (some o)) r' = if r' = r then some o else over Hi X r' := by
  by_cases e : r' = r <;> simp [over, upd, e]
theorem dbind_nil (env : Nat → DVal) (ds : List DVal) : dbind env [] ds = env := by cases ds <;> rfl
attribute [go_sem] over_upd upd_over over_h0 DThen.eq_1 DBodyQ.eq_1 DBodyQ.eq_2 DBodyQ.eq_3 DBodyQ.eq_4 dbind.eq_1 dbind_nil

theorem upd_upd {α : Type} (f : Nat → α) (r : Nat) (a b : α) : upd (upd f r a) r b = upd f r b := by
  funext i; simp only [upd]; split <;> rfl
/-- The store into block r1, told first. -/
theorem upd_swap {α : Type} {r1 r2 : Nat} (h : r1 ≠ r2) (f : Nat → α) (a b : α) : upd (upd f r2 b) r1 a = upd (upd f r1 a) r2 b := by
  funext i; simp only [upd]; by_cases e1 : i = r1 <;> by_cases e2 : i = r2 <;> simp_all
theorem splice_zero (xs ys : List DVal) : splice xs 0 ys = ys ++ xs.drop ys.length := by simp [splice]
theorem splice_succ (x : DVal) (xs ys : List DVal) (n : Nat) : splice (x :: xs) (n + 1) ys = x :: splice xs n ys := by
  simp [splice, Nat.add_right_comm]
attribute [go_sem] upd_upd splice_zero splice_succ

theorem Disj.st {Hi X : DHeap} (h : Disj Hi X) {r : Nat} {ob : DObj} (hr : X r = some ob) (o : Option DObj) : Disj Hi (upd X r o) := h.hi (h r (by simp [hr])) o

theorem DCalls.fzA {P : Program} {G : Nat → DVal} {f : FuncId} {args : List DVal} {H : DHeap} {R : DEnd → DHeap → Prop} (r : Nat) {cs : List DVal} {e : TypeId} (hr : H r = none) (h : DCalls P G f (fzs r cs args) H R) : DCalls P G f args (upd H r (some (.cells cs e))) R :=
  DCalls.fzArgs r (upd_same _ _ _) (by rw [upd_none_self hr]; exact h)
theorem DFin.fzA {R : DEnd → DHeap → Prop} {v : DVal} {H : DHeap} (r : Nat) {cs : List DVal} {e : TypeId} (hr : H r = none) (h : DFin R (Dl.fz r cs v) H) : DFin R v (upd H r (some (.cells cs e))) :=
  DFin.fz r (upd_same _ _ _) (by rw [upd_none_self hr]; exact h)
theorem DFin.dropA {R : DEnd → DHeap → Prop} {v : DVal} {H : DHeap} (r : Nat) {o : Option DObj} (hr : H r = none) (h : DFin R v H) : DFin R v (upd H r o) :=
  DFin.drop r (by rw [upd_none_self hr]; exact h)

theorem lasts_over (H X : DHeap) (w : World) : Lasts (over H X) w H w :=
  ⟨fun b i x hb hc => ⟨(over_eq_none.1 hb).1, hc⟩, Nat.le_refl _, fun _ _ => rfl⟩
theorem GhostE.over {H X : DHeap} (d : Disj H X) (v : DVal) : GhostE (over H X) v H v := fun w hw =>
  ⟨fun r o ho => by
    have hx : X r = none := d.x (by simp [ho])
    exact (hw r o (by rw [over_hi hx]; exact ho)).lasts (lasts_over H X w), fun b hb e => hb (over_eq_none.1 e).1, fun x hx => Rel.lasts (lasts_over H X w) _ _ hx⟩
/-- The part X is let go. -/
theorem DFin.over {R : DEnd → DHeap → Prop} {v : DVal} {H X : DHeap} (d : Disj H X) (h : R (.ret v) H) : DFin R v (over H X) := .ghost (.over d v) (.refl h)

section
variable {P : Program} {G : Nat → DVal} {N : Nat} {Q : DExit → DS → Prop}

/-- A region whose order is drawn, by a plan. -/
theorem dwp_draws {id : Nat} {ops : List Oper} {s : DS} (hm : P.follows .mixedOrders = true) (p : Plan) (hp : (ops.all (operOk N) && cover ops [] p && planOk ops p []) = true) (h : dplan P G ops (QP Q) p s) : dwp P G N (.region id ops.toArray true) Q s :=
  dwp_any (N := ⟨N, 0⟩) hm p (by simpa using hp) (by simpa using h)

/-- A loop over an iterator that has no memory of its own. -/
theorem dwp_range {g : Operand} {ps : List Tmp} {asg body : Code} {s : DS} (gf : FuncId) (captured : List DVal) (L : List (List DVal))
    (hit : DIter P G gf captured h0 L) (hg : dev G s.env g = .func (.func gf) [] captured)
    (hok : (opdOk N g && codeOk N asg && codeOk N body && flat asg && flat body) = true) (hL : ∀ x ∈ L, x.length = ps.length)
    (Hi X : DHeap) (hs : s.heap = over Hi X) (d1 : Disj Hi X)
    (I : Nat → DHeap → Prop) (Ix : Code → DHeap → Prop) (i0 : I 0 X)
    (hbody : ∀ k x Hi X, Disj Hi X → L[k]? = some x → I k X → dwp P G N asg (DThen (dwp P G N body (DBodyQ Hi (I (k + 1)) Ix))) ⟨dbind s.env ps x, over Hi X⟩)
    (hdone : ∀ X, Disj Hi X → I L.length X → Q .normal ⟨s.env, over Hi X⟩)
    (hexit : ∀ c X, Disj Hi X → Ix c X → DJump Q c ⟨s.env, over Hi X⟩) : dwp P G N (.rangeFunc g ps.toArray asg body) Q s := by
  simp only [dwp]
  exact dwp0_range hg hok hit (by simpa using hL) Hi X (by rw [hs, over_h0]) d1 (Disj.h0 _) (fun r hr => rfl) I Ix i0 (fun k x Hi X a b c => by simpa using hbody k x Hi X a b c) hdone hexit

end
end Go.Dl
