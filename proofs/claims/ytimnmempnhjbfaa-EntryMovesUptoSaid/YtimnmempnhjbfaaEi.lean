/- Rows of the call's own: a list of lists of ints, each in a block of its own. -/
import Derived.Test.YtimnmempnhjbfaaD9
set_option linter.unusedSimpArgs false
set_option linter.unusedVariables false
namespace Go.Dl
open Go

/-- v is nil (an empty list), or a slice of the call's own with the ints l, whatever lies ahead of and behind it in its block. -/
def OwnV (e : TypeId) (H : DHeap) (l : List Int) (v : DVal) (H' : DHeap) : Prop :=
  (l = [] ∧ v = .nilSlice ∧ H' = H) ∨ ∃ r pre lo rest, H r = none ∧ v = .oslice 1 r pre.length l.length lo ∧ l.length + rest.length = lo ∧ H' = upd H r (some (.cells (pre ++ (l.map dI ++ rest)) e))

def OwnRows (e : TypeId) (H : DHeap) : List (List Int) → List DVal → DHeap → Prop
  | [], vs, H' => vs = [] ∧ H' = H
  | l :: q, vs, H' => ∃ v vs' H1, vs = v :: vs' ∧ OwnRows e H q vs' H1 ∧ OwnV e H1 l v H'

/-- Two slices of the call's own, told in the other order. -/
theorem OwnV.swap {e : TypeId} {H H1 H2 : DHeap} {l m : List Int} {v u : DVal} (h : OwnV e H l v H1) (k : OwnV e H1 m u H2) : ∃ H1', OwnV e H m u H1' ∧ OwnV e H1' l v H2 := by
  rcases h with ⟨rfl, rfl, rfl⟩ | ⟨r, pre, lo, rest, hr, rfl, hlo, rfl⟩
  · exact ⟨H2, k, .inl ⟨rfl, rfl, rfl⟩⟩
  · rcases k with ⟨rfl, rfl, rfl⟩ | ⟨r', pre', lo', rest', hr', rfl, hlo', rfl⟩
    · exact ⟨H, .inl ⟨rfl, rfl, rfl⟩, .inr ⟨r, pre, lo, rest, hr, rfl, hlo, rfl⟩⟩
    · rw [upd_eq_none] at hr'
      exact ⟨_, .inr ⟨r', pre', lo', rest', hr'.2.2, rfl, hlo', rfl⟩, .inr ⟨r, pre, lo, rest, by simp [upd, hr', hr], rfl, hlo, upd_swap hr'.1 _ _ _⟩⟩

theorem OwnRows.len {e : TypeId} {H : DHeap} : ∀ {q : List (List Int)} {vs : List DVal} {H' : DHeap}, OwnRows e H q vs H' → vs.length = q.length
  | [], _, _, h => by rw [h.1]; rfl
  | l :: q, vs, H', h => by
    obtain ⟨v, vs', H1, rfl, h1, _⟩ := h
    simp [h1.len]

/-- **ROW i IS TAKEN OUT**, and whatever row is put in its place. -/
theorem OwnRows.focus {e : TypeId} {H : DHeap} : ∀ {q : List (List Int)} {vs : List DVal} {H' : DHeap}, OwnRows e H q vs H' → ∀ (i : Nat) (hi : i < q.length), ∃ v H1, vs[i]? = some v ∧ OwnV e H1 q[i] v H' ∧
    ∀ l' v' H2, OwnV e H1 l' v' H2 → OwnRows e H (q.set i l') (vs.set i v') H2
  | l :: q, vs, H', h, 0, hi => by
    obtain ⟨v, vs', H1, rfl, h1, h2⟩ := h
    exact ⟨v, H1, rfl, h2, fun l' v' H2 k => ⟨v', vs', H1, rfl, h1, k⟩⟩
  | l :: q, vs, H', h, i + 1, hi => by
    obtain ⟨v, vs', H1, rfl, h1, h2⟩ := h
    obtain ⟨u, H3, g1, g2, g3⟩ := h1.focus i (by simpa using hi)
    obtain ⟨H4, k1, k2⟩ := g2.swap h2
    refine ⟨u, H4, by simpa using g1, k2, fun l' v' H2 k => ?_⟩
    obtain ⟨H5, m1, m2⟩ := k1.swap k
    exact ⟨v, vs'.set i v', H5, rfl, g3 l' v' H5 m1, m2⟩

/-- Another block beside it. -/
theorem OwnV.frame {e : TypeId} {H H1 : DHeap} {l : List Int} {v : DVal} (h : OwnV e H l v H1) {r : Nat} (hr : H1 r = none) (o : DObj) : OwnV e (upd H r (some o)) l v (upd H1 r (some o)) ∧ H r = none := by
  rcases h with ⟨rfl, rfl, rfl⟩ | ⟨r', pre, lo, rest, hr', rfl, hlo, rfl⟩
  · exact ⟨.inl ⟨rfl, rfl, rfl⟩, hr⟩
  · rw [upd_eq_none] at hr
    exact ⟨.inr ⟨r', pre, lo, rest, by simp [upd, hr, hr'], rfl, hlo, upd_swap hr.1 _ _ _⟩, hr.2.2⟩
theorem OwnV.unframe {e : TypeId} {H H1 : DHeap} {l : List Int} {v : DVal} {r : Nat} {o : DObj} (h : OwnV e (upd H r (some o)) l v H1) (hr : H r = none) : OwnV e H l v (upd H1 r none) := by
  rcases h with ⟨rfl, rfl, rfl⟩ | ⟨r', pre, lo, rest, hr', rfl, hlo, rfl⟩
  · exact .inl ⟨rfl, rfl, upd_none_self hr _⟩
  · rw [upd_eq_none] at hr'
    exact .inr ⟨r', pre, lo, rest, hr'.2.2, rfl, hlo, by rw [upd_swap hr'.2.1, upd_none_self hr]⟩
theorem OwnRows.frame {e : TypeId} {H : DHeap} : ∀ {q : List (List Int)} {vs : List DVal} {H1 : DHeap}, OwnRows e H q vs H1 → ∀ {r : Nat}, H1 r = none → ∀ (o : DObj), OwnRows e (upd H r (some o)) q vs (upd H1 r (some o)) ∧ H r = none
  | [], vs, H1, h, r, hr, o => by
    obtain ⟨rfl, rfl⟩ := h
    exact ⟨⟨rfl, rfl⟩, hr⟩
  | l :: q, vs, H1, h, r, hr, o => by
    obtain ⟨v, vs', H2, rfl, h1, h2⟩ := h
    obtain ⟨k1, k2⟩ := h2.frame hr o
    obtain ⟨m1, m2⟩ := h1.frame k2 o
    exact ⟨⟨v, vs', _, rfl, m1, k1⟩, m2⟩
theorem OwnRows.unframe {e : TypeId} {H : DHeap} : ∀ {q : List (List Int)} {vs : List DVal} {H1 : DHeap} {r : Nat} {o : DObj}, OwnRows e (upd H r (some o)) q vs H1 → H r = none → ∃ H2, OwnRows e H q vs H2 ∧ H1 = upd H2 r (some o) ∧ H2 r = none
  | [], vs, H1, r, o, h, hr => by
    obtain ⟨rfl, rfl⟩ := h
    exact ⟨H, ⟨rfl, rfl⟩, rfl, hr⟩
  | l :: q, vs, H1, r, o, h, hr => by
    obtain ⟨v, vs', H2, rfl, h1, h2⟩ := h
    obtain ⟨H3, k1, rfl, k3⟩ := h1.unframe hr
    refine ⟨upd H1 r none, ⟨v, vs', H3, rfl, k1, h2.unframe k3⟩, ?_, by simp [upd]⟩
    have hro : H1 r = some o := by
      rcases h2 with ⟨_, _, rfl⟩ | ⟨r', pre, lo, rest, hr', _, _, rfl⟩
      · simp [upd]
      · rw [upd_eq_none] at hr'
        simp [upd, hr'.2.1]
    rw [upd_upd]
    exact (upd_self hro).symm

/-- **append of one int** to such a row. -/
theorem OwnV.append1 {e : TypeId} {H H0 : DHeap} {bytes : Nat} {l : List Int} {v : DVal} {t : Int} {dst : Option Nat} {K : DK} {env : Nat → DVal} (hv : OwnV e H l v H0) (hb : (l.length + 1) * bytes ≤ 35184372088832)
    (hK : ∀ v' H', OwnV e H (l ++ [t]) v' H' → K ⟨updO env dst v', H'⟩) : dAppendTo e 1 bytes 1 [dI t] dst v K ⟨env, H0⟩ := by
  rcases hv with ⟨rfl, rfl, rfl⟩ | ⟨r, pre, lo, rest, hr, rfl, hlo, rfl⟩
  · simp only [dAppendTo]
    refine ⟨fun h => by omega, fun _ => ⟨by simpa using hb, fun r hr => hK _ _ (.inr ⟨r, [], 1, [], hr, rfl, rfl, rfl⟩)⟩⟩
  · simp only [dAppendTo, true_and]
    rw [upd_same]
    simp only [dAppendO, true_and, Nat.mul_one, upd_upd]
    refine ⟨fun h1 => ⟨by simp; omega, ?_⟩, fun h1 => ⟨by simp, hb, fun r' pre' hr' _ => ?_⟩⟩
    · cases rest with
      | nil => simp at hlo; omega
      | cons x rest =>
        have hsp : splice (pre ++ (l.map dI ++ x :: rest)) (pre.length + l.length) [dI t] = pre ++ ((l ++ [t]).map dI ++ rest) := by
          have h2 : pre ++ (l.map dI ++ x :: rest) = (pre ++ l.map dI) ++ (x :: rest) := by simp
          have h3 : (pre ++ l.map dI).length = pre.length + l.length := by simp
          rw [h2, ← h3]
          unfold splice
          rw [List.take_left, List.drop_append, List.drop_of_length_le (by simp)]
          simp
        rw [hsp]
        refine hK _ _ (.inr ⟨r, pre, lo, rest, hr, by simp, by simp at hlo ⊢; omega, rfl⟩)
    · rw [upd_self hr] at hr' ⊢
      have hrest : rest = [] := List.length_eq_zero_iff.1 (by omega)
      subst hrest
      refine hK _ _ (.inr ⟨r', pre', l.length + 1, [], hr', by simp, by simp, ?_⟩)
      simp [take_map_len]

theorem OwnRows.snoc {e : TypeId} {H : DHeap} : ∀ {q : List (List Int)} {vs : List DVal} {H1 H2 : DHeap} {l : List Int} {v : DVal}, OwnRows e H q vs H1 → OwnV e H1 l v H2 → OwnRows e H (q ++ [l]) (vs ++ [v]) H2
  | [], vs, H1, H2, l, v, h, k => by
    obtain ⟨rfl, rfl⟩ := h
    exact ⟨v, [], _, rfl, ⟨rfl, rfl⟩, k⟩
  | m :: q, vs, H1, H2, l, v, h, k => by
    obtain ⟨u, vs', H3, rfl, h1, h2⟩ := h
    obtain ⟨H4, k1, k2⟩ := h2.swap k
    exact ⟨u, vs' ++ [v], H4, rfl, h1.snoc k1, k2⟩

/-- A row that lay below comes on top. -/
theorem OwnRows.above {e : TypeId} {H H0 : DHeap} {l : List Int} {v : DVal} (h0 : OwnV e H l v H0) : ∀ {q : List (List Int)} {vs : List DVal} {H1 : DHeap}, OwnRows e H0 q vs H1 → ∃ H0', OwnRows e H q vs H0' ∧ OwnV e H0' l v H1
  | [], vs, H1, h => by
    obtain ⟨rfl, rfl⟩ := h
    exact ⟨H, ⟨rfl, rfl⟩, h0⟩
  | m :: q, vs, H1, h => by
    obtain ⟨u, vs', H3, rfl, h1, h2⟩ := h
    obtain ⟨H4, k1, k2⟩ := h1.above h0
    obtain ⟨H5, m1, m2⟩ := k2.swap h2
    exact ⟨H5, ⟨u, vs', H4, rfl, k1, m1⟩, m2⟩

/-- The row below is let go. -/
theorem OwnV.drop {e : TypeId} {H H0 H1 : DHeap} {l m : List Int} {u v : DVal} (h : OwnV e H m u H0) (k : OwnV e H0 l v H1) : ∃ H2, OwnV e H l v H2 ∧ ∀ r o, H2 r = some o → H1 r = some o := by
  obtain ⟨H2, k1, k2⟩ := h.swap k
  refine ⟨H2, k1, fun r o ho => ?_⟩
  rcases k2 with ⟨_, _, rfl⟩ | ⟨r', pre, lo, rest, hr', _, _, rfl⟩
  · exact ho
  · have : r ≠ r' := fun e => by rw [e, hr'] at ho; cases ho
    simp [upd, this, ho]

/-- A list of rows of the call's own, in a slice of its own. -/
def OwnLL (e e' : TypeId) (H : DHeap) (q : List (List Int)) (v : DVal) (H' : DHeap) : Prop :=
  (q = [] ∧ v = .nilSlice ∧ H' = H) ∨ ∃ ro vs H1, OwnRows e H q vs H1 ∧ H1 ro = none ∧ v = .oslice 1 ro 0 q.length q.length ∧ H' = upd H1 ro (some (.cells vs e'))

theorem OwnA.ownV {e : TypeId} {H H0 : DHeap} {l : List Int} {v : DVal} (h : OwnA H e 1 l.length (l.map dI) v H0) : OwnV e H l v H0 := by
  rcases h with ⟨a, b, rfl, rfl⟩ | ⟨r, hr, hl, rfl, rfl⟩
  · exact .inl ⟨List.length_eq_zero_iff.1 a, rfl, rfl⟩
  · exact .inr ⟨r, [], l.length, [], hr, rfl, by simp, by simp⟩

/-- Own rows seen as memory that lasts. -/
theorem OwnV.ghost {e : TypeId} {H H0 : DHeap} {l : List Int} {v : DVal} (h : OwnV e H l v H0) : GhostE H0 v H (dIs l) := by
  rcases h with ⟨rfl, rfl, rfl⟩ | ⟨r, pre, lo, rest, hr, rfl, hlo, rfl⟩
  · exact fun w hw => ⟨hw, fun _ h => h, fun x hx => DLe.nil _ _ _ hx⟩
  · have := GhostE.fz (v := .oslice 1 r pre.length l.length lo) (upd_same H r (some (.cells (pre ++ (l.map dI ++ rest)) e)))
    rw [upd_none_self hr] at this
    simp only [Dl.fz, if_pos, List.drop_left, Nat.mul_one] at this
    rw [List.take_append_of_le_length (by simp), List.take_of_length_le (by simp)] at this
    exact this
end Go.Dl
