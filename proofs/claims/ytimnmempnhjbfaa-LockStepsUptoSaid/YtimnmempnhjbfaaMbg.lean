/- The data level and the contracts of the functions that are reached (part 7). -/
import Derived.Test.YtimnmempnhjbfaaMbf
set_option linter.unusedSimpArgs false
set_option linter.unusedVariables false
-- Rows of the call's own: a list of lists of ints, each in a block of its own.
namespace Go.Dl
open Go

/-- v is nil (an empty list), or a slice of the call's own with the ints l, whatever lies ahead of and behind it in its block. -/
def OwnV (e : TypeId) (H : DHeap) (l : List Int) (v : DVal) (H' : DHeap) : Prop :=
  (l = [] ∧ v = .nilSlice ∧ H' = H) ∨ ∃ r pre lo rest, H r = none ∧ v = .oslice 1 r pre.length l.length lo ∧ l.length + rest.length = lo ∧ H' = upd H r (some (.cells (pre ++ (l.map dI ++ rest)) e))

def OwnRows (e : TypeId) (H : DHeap) : List (List Int) → List DVal → DHeap → Prop
  | [], vs, H' => vs = [] ∧ H' = H
  | l :: q, vs, H' => ∃ v vs' H1, vs = v :: vs' ∧ OwnRows e H q vs' H1 ∧ OwnV e H1 l v H'

/-- Two slices of the call's own, told in the other order. -/
theorem OwnV.swap {e : TypeId} {H H1 H2 : DHeap} {l m : List Int} {v u : DVal} (h : OwnV e H l v H1) (k : OwnV e H1 m u H2) : ∃ H1', OwnV e H m u H1' ∧ OwnV e H1' l v H2 := by
  rcases h with ⟨rfl, rfl, rfl⟩ | ⟨r, pre, lo, rest, hr, rfl, hlo, rfl⟩
  · exact ⟨H2, k, .inl ⟨rfl, rfl, rfl⟩⟩
  · rcases k with ⟨rfl, rfl, rfl⟩ | ⟨r', pre', lo', rest', hr', rfl, hlo', rfl⟩
    · exact ⟨H, .inl ⟨rfl, rfl, rfl⟩, .inr ⟨r, pre, lo, rest, hr, rfl, hlo, rfl⟩⟩
    · rw [upd_eq_none] at hr'
      exact ⟨_, .inr ⟨r', pre', lo', rest', hr'.2.2, rfl, hlo', rfl⟩, .inr ⟨r, pre, lo, rest, by simp [upd, hr', hr], rfl, hlo, upd_swap hr'.1 _ _ _⟩⟩

theorem OwnRows.len {e : TypeId} {H : DHeap} : ∀ {q : List (List Int)} {vs : List DVal} {H' : DHeap}, OwnRows e H q vs H' → vs.length = q.length
  | [], _, _, h => by rw [h.1]; rfl
  | l :: q, vs, H', h => by
    obtain ⟨v, vs', H1, rfl, h1, _⟩ := h
    simp [h1.len]

/-- **ROW i IS TAKEN OUT**, and whatever row is put in its place. -/
theorem OwnRows.focus {e : TypeId} {H : DHeap} : ∀ {q : List (List Int)} {vs : List DVal} {H' : DHeap}, OwnRows e H q vs H' → ∀ (i : Nat) (hi : i < q.length), ∃ v H1, vs[i]? = some v ∧ OwnV e H1 q[i] v H' ∧
    ∀ l' v' H2, OwnV e H1 l' v' H2 → OwnRows e H (q.set i l') (vs.set i v') H2
  | l :: q, vs, H', h, 0, hi => by
    obtain ⟨v, vs', H1, rfl, h1, h2⟩ := h
    exact ⟨v, H1, rfl, h2, fun l' v' H2 k => ⟨v', vs', H1, rfl, h1, k⟩⟩
  | l :: q, vs, H', h, i + 1, hi => by
    obtain ⟨v, vs', H1, rfl, h1, h2⟩ := h
    obtain ⟨u, H3, g1, g2, g3⟩ := h1.focus i (by simpa using hi)
    obtain ⟨H4, k1, k2⟩ := g2.swap h2
    refine ⟨u, H4, by simpa using g1, k2, fun l' v' H2 k => ?_⟩
    obtain ⟨H5, m1, m2⟩ := k1.swap k
    exact ⟨v, vs'.set i v', H5, rfl, g3 l' v' H5 m1, m2⟩

/-- Another block beside it. -/
theorem OwnV.frame {e : TypeId} {H H1 : DHeap} {l : List Int} {v : DVal} (h : OwnV e H l v H1) {r : Nat} (hr : H1 r = none) (o : DObj) : OwnV e (upd H r (some o)) l v (upd H1 r (some o)) ∧ H r = none := by
  rcases h with ⟨rfl, rfl, rfl⟩ | ⟨r', pre, lo, rest, hr', rfl, hlo, rfl⟩
  · exact ⟨.inl ⟨rfl, rfl, rfl⟩, hr⟩
  · rw [upd_eq_none] at hr
    exact ⟨.inr ⟨r', pre, lo, rest, by simp [upd, hr, hr'], rfl, hlo, upd_swap hr.1 _ _ _⟩, hr.2.2⟩
theorem OwnV.unframe {e : TypeId} {H H1 : DHeap} {l : List Int} {v : DVal} {r : Nat} {o : DObj} (h : OwnV e (upd H r (some o)) l v H1) (hr : H r = none) : OwnV e H l v (upd H1 r none) := by
  rcases h with ⟨rfl, rfl, rfl⟩ | ⟨r', pre, lo, rest, hr', rfl, hlo, rfl⟩
  · exact .inl ⟨rfl, rfl, upd_none_self hr _⟩
  · rw [upd_eq_none] at hr'
    exact .inr ⟨r', pre, lo, rest, hr'.2.2, rfl, hlo, by rw [upd_swap hr'.2.1, upd_none_self hr]⟩
theorem OwnRows.frame {e : TypeId} {H : DHeap} : ∀ {q : List (List Int)} {vs : List DVal} {H1 : DHeap}, OwnRows e H q vs H1 → ∀ {r : Nat}, H1 r = none → ∀ (o : DObj), OwnRows e (upd H r (some o)) q vs (upd H1 r (some o)) ∧ H r = none
  | [], vs, H1, h, r, hr, o => by
    obtain ⟨rfl, rfl⟩ := h
    exact ⟨⟨rfl, rfl⟩, hr⟩
  | l :: q, vs, H1, h, r, hr, o => by
    obtain ⟨v, vs', H2, rfl, h1, h2⟩ := h
    obtain ⟨k1, k2⟩ := h2.frame hr o
    obtain ⟨m1, m2⟩ := h1.frame k2 o
    exact ⟨⟨v, vs', _, rfl, m1, k1⟩, m2⟩
theorem OwnRows.unframe {e : TypeId} {H : DHeap} : ∀ {q : List (List Int)} {vs : List DVal} {H1 : DHeap} {r : Nat} {o : DObj}, OwnRows e (upd H r (some o)) q vs H1 → H r = none → ∃ H2, OwnRows e H q vs H2 ∧ H1 = upd H2 r (some o) ∧ H2 r = none
  | [], vs, H1, r, o, h, hr => by
    obtain ⟨rfl, rfl⟩ := h
    exact ⟨H, ⟨rfl, rfl⟩, rfl, hr⟩
  | l :: q, vs, H1, r, o, h, hr => by
    obtain ⟨v, vs', H2, rfl, h1, h2⟩ := h
    obtain ⟨H3, k1, rfl, k3⟩ := h1.unframe hr
    refine ⟨upd H1 r none, ⟨v, vs', H3, rfl, k1, h2.unframe k3⟩, ?_, by simp [upd]⟩
    have hro : H1 r = some o := by
      rcases h2 with ⟨_, _, rfl⟩ | ⟨r', pre, lo, rest, hr', _, _, rfl⟩
      · simp [upd]
      · rw [upd_eq_none] at hr'
        simp [upd, hr'.2.1]
    rw [upd_upd]
    exact (upd_self hro).symm

/-- **append of one int** to such a row. -/
theorem OwnV.append1 {e : TypeId} {H H0 : DHeap} {bytes : Nat} {l : List Int} {v : DVal} {t : Int} {dst : Option Nat} {K : DK} {env : Nat → DVal} (hv : OwnV e H l v H0) (hb : (l.length + 1) * bytes ≤ 35184372088832)
    (hK : ∀ v' H', OwnV e H (l ++ [t]) v' H' → K ⟨updO env dst v', H'⟩) : dAppendTo e 1 bytes 1 [dI t] dst v K ⟨env, H0⟩ := by
  rcases hv with ⟨rfl, rfl, rfl⟩ | ⟨r, pre, lo, rest, hr, rfl, hlo, rfl⟩
  · simp only [dAppendTo]
    refine ⟨fun h => by omega, fun _ => ⟨by simpa using hb, fun r hr => hK _ _ (.inr ⟨r, [], 1, [], hr, rfl, rfl, rfl⟩)⟩⟩
  · simp only [dAppendTo, true_and]
    rw [upd_same]
    simp only [dAppendO, true_and, Nat.mul_one, upd_upd]
    refine ⟨fun h1 => ⟨by simp; omega, ?_⟩, fun h1 => ⟨by simp, hb, fun r' pre' hr' _ => ?_⟩⟩
    · cases rest with
      | nil => simp at hlo; omega
      | cons x rest =>
        have hsp : splice (pre ++ (l.map dI ++ x :: rest)) (pre.length + l.length) [dI t] = pre ++ ((l ++ [t]).map dI ++ rest) := by
          have h2 : pre ++ (l.map dI ++ x :: rest) = (pre ++ l.map dI) ++ (x :: rest) := by simp
          have h3 : (pre ++ l.map dI).length = pre.length + l.length := by simp
          rw [h2, ← h3]
          unfold splice
          rw [List.take_left, List.drop_append, List.drop_of_length_le (by simp)]
          simp
        rw [hsp]
        refine hK _ _ (.inr ⟨r, pre, lo, rest, hr, by simp, by simp at hlo ⊢; omega, rfl⟩)
    · rw [upd_self hr] at hr' ⊢
      have hrest : rest = [] := List.length_eq_zero_iff.1 (by omega)
      subst hrest
      refine hK _ _ (.inr ⟨r', pre', l.length + 1, [], hr', by simp, by simp, ?_⟩)
      simp [take_map_len]

theorem OwnRows.snoc {e : TypeId} {H : DHeap} : ∀ {q : List (List Int)} {vs : List DVal} {H1 H2 : DHeap} {l : List Int} {v : DVal}, OwnRows e H q vs H1 → OwnV e H1 l v H2 → OwnRows e H (q ++ [l]) (vs ++ [v]) H2
  | [], vs, H1, H2, l, v, h, k => by
    obtain ⟨rfl, rfl⟩ := h
    exact ⟨v, [], _, rfl, ⟨rfl, rfl⟩, k⟩
  | m :: q, vs, H1, H2, l, v, h, k => by
    obtain ⟨u, vs', H3, rfl, h1, h2⟩ := h
    obtain ⟨H4, k1, k2⟩ := h2.swap k
    exact ⟨u, vs' ++ [v], H4, rfl, h1.snoc k1, k2⟩

/-- A row that lay below comes on top. -/
theorem OwnRows.above {e : TypeId} {H H0 : DHeap} {l : List Int} {v : DVal} (h0 : OwnV e H l v H0) : ∀ {q : List (List Int)} {vs : List DVal} {H1 : DHeap}, OwnRows e H0 q vs H1 → ∃ H0', OwnRows e H q vs H0' ∧ OwnV e H0' l v H1
  | [], vs, H1, h => by
    obtain ⟨rfl, rfl⟩ := h
    exact ⟨H, ⟨rfl, rfl⟩, h0⟩
  | m :: q, vs, H1, h => by
    obtain ⟨u, vs', H3, rfl, h1, h2⟩ := h
    obtain ⟨H4, k1, k2⟩ := h1.above h0
    obtain ⟨H5, m1, m2⟩ := k2.swap h2
    exact ⟨H5, ⟨u, vs', H4, rfl, k1, m1⟩, m2⟩

/-- The row below is let go. -/
theorem OwnV.drop {e : TypeId} {H H0 H1 : DHeap} {l m : List Int} {u v : DVal} (h : OwnV e H m u H0) (k : OwnV e H0 l v H1) : ∃ H2, OwnV e H l v H2 ∧ ∀ r o, H2 r = some o → H1 r = some o := by
  obtain ⟨H2, k1, k2⟩ := h.swap k
  refine ⟨H2, k1, fun r o ho => ?_⟩
  rcases k2 with ⟨_, _, rfl⟩ | ⟨r', pre, lo, rest, hr', _, _, rfl⟩
  · exact ho
  · have : r ≠ r' := fun e => by rw [e, hr'] at ho; cases ho
    simp [upd, this, ho]

/-- A list of rows of the call's own, in a slice of its own. -/
def OwnLL (e e' : TypeId) (H : DHeap) (q : List (List Int)) (v : DVal) (H' : DHeap) : Prop :=
  (q = [] ∧ v = .nilSlice ∧ H' = H) ∨ ∃ ro vs H1, OwnRows e H q vs H1 ∧ H1 ro = none ∧ v = .oslice 1 ro 0 q.length q.length ∧ H' = upd H1 ro (some (.cells vs e'))

theorem OwnA.ownV {e : TypeId} {H H0 : DHeap} {l : List Int} {v : DVal} (h : OwnA H e 1 l.length (l.map dI) v H0) : OwnV e H l v H0 := by
  rcases h with ⟨a, b, rfl, rfl⟩ | ⟨r, hr, hl, rfl, rfl⟩
  · exact .inl ⟨List.length_eq_zero_iff.1 a, rfl, rfl⟩
  · exact .inr ⟨r, [], l.length, [], hr, rfl, by simp, by simp⟩

/-- Own rows seen as memory that lasts. -/
theorem OwnV.ghost {e : TypeId} {H H0 : DHeap} {l : List Int} {v : DVal} (h : OwnV e H l v H0) : GhostE H0 v H (dIs l) := by
  rcases h with ⟨rfl, rfl, rfl⟩ | ⟨r, pre, lo, rest, hr, rfl, hlo, rfl⟩
  · exact fun w hw => ⟨hw, fun _ h => h, fun x hx => DLe.nil _ _ _ hx⟩
  · have := GhostE.fz (v := .oslice 1 r pre.length l.length lo) (upd_same H r (some (.cells (pre ++ (l.map dI ++ rest)) e)))
    rw [upd_none_self hr] at this
    simp only [Dl.fz, if_pos, List.drop_left, Nat.mul_one] at this
    rw [List.take_append_of_le_length (by simp), List.take_of_length_le (by simp)] at this
    exact this

-- loose values: none points into memory that lasts -------------------------------------------------------------------------------
/-- Whether this value describes a model's value does not hang on which blocks are the call's own. -/
def loose : DVal → Bool
  | .bool _ | .int _ _ | .str _ | .nilPtr | .nilSlice | .nilMap | .nilFunc | .nilIface => true
  | .optr _ _ | .oslice _ _ _ _ _ | .omap _ => true
  | .tuple l => looses l
  | .agg l => looses l
  | _ => false
where looses : List DVal → Bool
  | [] => true
  | d :: ds => loose d && looses ds

mutual
theorem loose_rel {w : World} {H H' : DHeap} : ∀ (d : DVal) (v : Value), loose d = true → Rel w H d v → Rel w H' d v
  | .tuple l, v, hp, h => by
    simp only [loose] at hp
    simp only [Rel] at h ⊢
    obtain ⟨x, rfl, h1⟩ := h
    exact ⟨x, rfl, looses_rel _ _ hp h1⟩
  | .agg l, v, hp, h => by
    simp only [loose] at hp
    simp only [Rel] at h ⊢
    obtain ⟨x, rfl, h1⟩ := h
    exact ⟨x, rfl, looses_rel _ _ hp h1⟩
  | .bool x, v, hp, h => by simpa [Rel] using h
  | .int x y, v, hp, h => by simpa [Rel] using h
  | .str x, v, hp, h => by simpa [Rel] using h
  | .nilPtr, v, hp, h => by simpa [Rel] using h
  | .nilSlice, v, hp, h => by simpa [Rel] using h
  | .nilMap, v, hp, h => by simpa [Rel] using h
  | .nilFunc, v, hp, h => by simpa [Rel] using h
  | .nilIface, v, hp, h => by simpa [Rel] using h
  | .optr _ _, v, hp, h => by simpa [Rel] using h
  | .oslice _ _ _ _ _, v, hp, h => by simpa [Rel] using h
  | .omap _, v, hp, h => by simpa [Rel] using h
  | .raw _, _, hp, _ => by cases hp
  | .vptr _ _, _, hp, _ => by cases hp
  | .vslice _ _, _, hp, _ => by cases hp
  | .func _ _ _, _, hp, _ => by cases hp
  | .iface _ _, _, hp, _ => by cases hp
theorem looses_rel {w : World} {H H' : DHeap} : ∀ (ds : List DVal) (vs : List Value), loose.looses ds = true → RelL w H ds vs → RelL w H' ds vs
  | [], _, _, h => by simpa [RelL] using h
  | d :: ds, vs, hp, h => by
    simp only [loose.looses, Bool.and_eq_true] at hp
    simp only [RelL] at h ⊢
    obtain ⟨y, ys, rfl, h1, h2⟩ := h
    exact ⟨y, ys, rfl, loose_rel d y hp.1 h1, looses_rel ds ys hp.2 h2⟩
end
theorem looses_iff {l : List DVal} : loose.looses l = true ↔ ∀ d ∈ l, loose d = true := by
  induction l with
  | nil => simp [loose.looses]
  | cons d l ih => simp [loose.looses, ih]
theorem looses_append {l m : List DVal} : loose.looses (l ++ m) = true ↔ loose.looses l = true ∧ loose.looses m = true := by
  simp only [looses_iff, List.mem_append]
  exact ⟨fun h => ⟨fun d hd => h d (.inl hd), fun d hd => h d (.inr hd)⟩, fun h d hd => hd.elim (h.1 d) (h.2 d)⟩
theorem looses_ints (l : List Int) : loose.looses (l.map dI) = true := by
  rw [looses_iff]; intro d hd
  obtain ⟨x, _, rfl⟩ := List.mem_map.1 hd
  rfl
def looseO : DObj → Bool
  | .cells cs _ => loose.looses cs
  | .map es => es.all fun p => loose p.1 && loose p.2
  | .loop _ _ _ => false
/-- What H' has beyond H is loose. -/
def Loose (H H' : DHeap) : Prop := ∀ r o, H' r = some o → H r = some o ∨ looseO o = true
theorem Loose.refl (H : DHeap) : Loose H H := fun _ _ h => .inl h
theorem Loose.trans {H H' H'' : DHeap} (h : Loose H H') (k : Loose H' H'') : Loose H H'' := fun r o ho => by
  rcases k r o ho with h1 | h1
  · exact h r o h1
  · exact .inr h1
theorem Loose.sub {H H' H'' : DHeap} (h : Loose H H') (k : ∀ r o, H'' r = some o → H' r = some o) : Loose H H'' := fun r o ho => h r o (k r o ho)
theorem Loose.upd {H H' : DHeap} (h : Loose H H') {r : Nat} {o : DObj} (ho : looseO o = true) : Loose H (upd H' r (some o)) := fun b p hb => by
  simp only [Dl.upd] at hb
  split at hb
  · cases hb; exact .inr ho
  · exact h b p hb
theorem Loose.unframe {H H' : DHeap} {r : Nat} {o : DObj} (h : Loose (Dl.upd H r (some o)) H') : Loose H (Dl.upd H' r none) := fun b p hb => by
  simp only [Dl.upd] at hb
  split at hb
  · cases hb
  · rename_i hne
    rcases h b p hb with h1 | h1
    · simp only [Dl.upd, if_neg hne] at h1; exact .inl h1
    · exact .inr h1
theorem OwnA.loose {e : TypeId} {H H0 : DHeap} {n : Nat} {cs : List DVal} {v : DVal} (h : OwnA H e 1 n cs v H0) (hc : loose.looses cs = true) : Loose H H0 := by
  rcases h with ⟨_, _, _, rfl⟩ | ⟨r, hr, hl, rfl, rfl⟩
  · exact .refl _
  · exact (Loose.refl H).upd hc
theorem OwnV.one_loose {e : TypeId} {H H1 : DHeap} {l : List Int} {v : DVal} (h : OwnV e H l v H1) : Dl.loose v = true := by
  rcases h with ⟨_, rfl, _⟩ | ⟨_, _, _, _, _, rfl, _⟩ <;> rfl
theorem OwnRows.looses {e : TypeId} {H : DHeap} : ∀ {q : List (List Int)} {vs : List DVal} {H1 : DHeap}, OwnRows e H q vs H1 → loose.looses vs = true
  | [], _, _, h => by rw [h.1]; rfl
  | l :: q, vs, H1, h => by
    obtain ⟨v, vs', H2, rfl, h1, h2⟩ := h
    simp only [loose.looses, h2.one_loose, h1.looses, Bool.and_self]
end Go.Dl

-- entry.with, Put, Take, Remove: results that are the call's own.
namespace Go.Dl
open Go Go.Proofs
set_option maxRecDepth 10000

theorem OwnV.keep {e : TypeId} {H H1 : DHeap} {l : List Int} {v : DVal} (h : OwnV e H l v H1) {r : Nat} {o : DObj} (hr : H r = some o) : H1 r = some o := by
  rcases h with ⟨_, _, rfl⟩ | ⟨r', pre, lo, rest, hr', _, _, rfl⟩
  · exact hr
  · have : r ≠ r' := fun e => by rw [e, hr'] at hr; cases hr
    simp [upd, this, hr]

/-- k rows are laid, in a slice of n. -/
def WRows (H0 : DHeap) (n : Nat) (q : List (List Int)) (v : DVal) (heap : DHeap) : Prop :=
  ∃ ro vs H1, OwnRows 3 H0 q vs H1 ∧ Loose H0 H1 ∧ H1 ro = none ∧ v = .oslice 1 ro 0 n n ∧ heap = upd H1 ro (some (.cells (vs ++ List.replicate (n - q.length) .nilSlice) 37))

theorem splice_setD (vs : List DVal) (e : Nat) (v : DVal) (h : e < vs.length) : splice vs e [v] = vs.set e v := by
  unfold splice
  rw [List.set_eq_take_append_cons_drop, if_pos h]
  simp

theorem with_own (G : Nat → DVal) (q : List (List Int)) (e : Nat) (l : List Int) (v : DVal) (H H0 : DHeap) (he : e < q.length) (hq : q.length ≤ 1099511627776) (hl : ∀ l ∈ q, l.length ≤ 1099511627776) (hv : OwnV 3 H l v H0) (hL : Loose H H0) (hone : v.cells = [v]) (hone' : v.one = true) :
    DCalls Try.prog G 62 [dIss q, dI e, v] H0 fun x H' => ∃ u, x = .ret u ∧ OwnLL 3 37 H (q.set e l) u H' ∧ Loose H H' := by
  refine dcalls_intro Try.func62 Try.call62 rfl (by kernel_rfl) ?_
  simp (disch := omega) only [go_sem, Nat.reduceEqDiff, Nat.reduceAdd, Nat.reduceMul, Nat.reduceSub, Nat.reduceLeDiff, ↓reduceIte, reduceCtorEq, Int.reduceAdd, Int.reduceSub, Int.reduceMul, Int.reduceNeg, Int.reduceToNat, List.reduceReplicate]
  intro r hr; dsimp only at hr
  simp (disch := omega) only [go_sem, Nat.reduceEqDiff, Nat.reduceAdd, Nat.reduceMul, Nat.reduceSub, Nat.reduceLeDiff, ↓reduceIte, reduceCtorEq, Int.reduceAdd, Int.reduceSub, Int.reduceMul, Int.reduceNeg, Int.reduceToNat, List.reduceReplicate]
  obtain ⟨I, hI⟩ : ∃ I : Nat → (Nat → DVal) → DHeap → Prop, ∀ k env heap, I k env heap ↔ (env 0 = dIss q ∧ env 1 = dI e ∧ env 2 = v ∧ env 13 = dI q.length ∧ env 14 = dI k ∧ k ≤ q.length ∧ WRows H0 q.length (q.take k) (env 7) heap) := ⟨_, fun _ _ _ => Iff.rfl⟩
  refine DLoop.run I (fun k => q.length - k) 0 ((hI _ _ _).2 ?_) ?_
  · simp (disch := omega) only [go_sem, Nat.reduceEqDiff, Nat.reduceAdd, Nat.reduceMul, Nat.reduceSub, Nat.reduceLeDiff, ↓reduceIte, reduceCtorEq, Int.reduceAdd, Int.reduceSub, Int.reduceMul, Int.reduceNeg, Int.reduceToNat, List.reduceReplicate]
    (repeat' apply And.intro) <;> (try first | rfl | assumption | omega)
    exact ⟨r, [], H0, ⟨rfl, rfl⟩, .refl _, hr, rfl, by simp⟩
  · intro k env heap hk
    obtain ⟨h0, h1, h2, h13, h14, hk, r, vs, H1, hrows, hlo, hr, h7, rfl⟩ := (hI _ _ _).1 hk
    have htl : (q.take k).length = k := by rw [List.length_take]; omega
    have hvl : vs.length = k := by rw [hrows.len, htl]
    by_cases hlt : k < q.length
    · simp (disch := omega) only [go_sem, Nat.reduceEqDiff, Nat.reduceAdd, Nat.reduceMul, Nat.reduceSub, Nat.reduceLeDiff, ↓reduceIte, reduceCtorEq, Int.reduceAdd, Int.reduceSub, Int.reduceMul, Int.reduceNeg, Int.reduceToNat, List.reduceReplicate, h0, h1, h2, h13, h14, h7]
      refine (clone_own G q[k] _ (hl _ (List.getElem_mem hlt))).mono ?_
      rintro _ H2 ⟨u, rfl, hu⟩
      have hu' := hu.ownV
      have hro := hu'.keep (upd_same H1 r _)
      have hu1 := hu'.unframe hr
      have huc : u.cells = [u] ∧ u.one = true := by
        rcases hu with ⟨_, _, rfl, _⟩ | ⟨_, _, _, rfl, _⟩ <;> exact ⟨rfl, rfl⟩
      simp (disch := omega) only [go_sem, Nat.reduceEqDiff, Nat.reduceAdd, Nat.reduceMul, Nat.reduceSub, Nat.reduceLeDiff, ↓reduceIte, reduceCtorEq, Int.reduceAdd, Int.reduceSub, Int.reduceMul, Int.reduceNeg, Int.reduceToNat, List.reduceReplicate, h0, h1, h2, h13, h14, h7, hro, huc.1, huc.2]
      refine ⟨by rw [List.length_append, List.length_replicate, hvl, htl]; omega, k + 1, _, GhostS.refl _, (hI _ _ _).2 ?_, by omega⟩
      simp (disch := omega) only [go_sem, Nat.reduceEqDiff, Nat.reduceAdd, Nat.reduceMul, Nat.reduceSub, Nat.reduceLeDiff, ↓reduceIte, reduceCtorEq, Int.reduceAdd, Int.reduceSub, Int.reduceMul, Int.reduceNeg, Int.reduceToNat, List.reduceReplicate, h0, h1, h2, h13, h14, h7]
      (repeat' apply And.intro) <;> (try first | rfl | assumption | omega)
      have hst := hrows.snoc hu1
      rw [show q.take k ++ [q[k]] = q.take (k + 1) by rw [List.take_add_one, List.getElem?_eq_getElem hlt]; rfl] at hst
      refine ⟨r, vs ++ [u], upd H2 r none, hst, hlo.trans (hu.loose (looses_ints _)).unframe, by simp [upd], rfl, ?_⟩
      rw [upd_upd]
      have := splice_fill vs [u] (q.length - k) .nilSlice (by simp; omega)
      rw [hvl] at this
      rw [htl, this]
      congr 4
      rw [List.length_take]; simp; omega
    · simp (disch := omega) only [go_sem, Nat.reduceEqDiff, Nat.reduceAdd, Nat.reduceMul, Nat.reduceSub, Nat.reduceLeDiff, ↓reduceIte, reduceCtorEq, Int.reduceAdd, Int.reduceSub, Int.reduceMul, Int.reduceNeg, Int.reduceToNat, List.reduceReplicate, h0, h1, h2, h13, h14, h7, hone, hone']
      have hkq : k = q.length := by omega
      subst hkq
      simp only [List.take_length, Nat.sub_self, List.replicate_zero, List.append_nil] at hrows ⊢
      rw [splice_setD vs e v (by omega)]
      refine ⟨by omega, ?_⟩
      obtain ⟨H5, g1, g2⟩ := hrows.above hv
      obtain ⟨u, H3, k1, k2, k3⟩ := g1.focus e he
      obtain ⟨H4, m1, m2⟩ := k2.drop g2
      refine DFin.sub (H' := upd H4 r (some (.cells (vs.set e v) 37))) (fun b o ho => ?_) (DFin.refl ⟨_, rfl, .inr ⟨r, vs.set e v, H4, k3 l v H4 m1, sub_none m2 hr, by simp, rfl⟩, ((hL.trans hlo).sub m2).upd (k3 l v H4 m1).looses⟩)
      simp only [upd] at ho ⊢
      split at ho
      · rename_i e1; simpa [e1] using ho
      · rename_i e1; rw [if_neg e1]; exact m2 b o ho

theorem OwnA.cell1 {H H0 : DHeap} {e : TypeId} {size n : Nat} {cs : List DVal} {v : DVal} (h : OwnA H e size n cs v H0) : v.cells = [v] ∧ v.one = true := by
  rcases h with ⟨_, _, rfl, _⟩ | ⟨_, _, _, rfl, _⟩ <;> exact ⟨rfl, rfl⟩
theorem OwnB.cell1 {H H0 : DHeap} {e : TypeId} {size n : Nat} {cs : List DVal} {v : DVal} (h : OwnB H e size n cs v H0) : v.cells = [v] ∧ v.one = true := by
  rcases h with ⟨_, _, rfl, _⟩ | ⟨_, _, _, _, _, rfl, _⟩ <;> exact ⟨rfl, rfl⟩
theorem OwnLL.nil (e e' : TypeId) (H : DHeap) : OwnLL e e' H [] .nilSlice H := .inl ⟨rfl, rfl, rfl⟩

theorem put_own (G : Nat → DVal) (q : List (List Int)) (e t : Int) (H : DHeap) (hq : q.length ≤ 1099511627776) (hl : ∀ l ∈ q, l.length ≤ 1000000000) :
    DCalls Try.prog G 11 [dIss q, dI e, dI t] H fun x H' => ∃ u, x = .ret (.tuple [u, dI (putL q e t).2]) ∧ OwnLL 3 37 H (putL q e t).1 u H' ∧ Loose H H' := by
  have hl' : ∀ l ∈ q, l.length ≤ 1099511627776 := fun l h => Nat.le_trans (hl l h) (by omega)
  refine dcalls_intro Try.func11 Try.call11 rfl (by kernel_rfl) ?_
  simp (disch := omega) only [go_sem, Nat.reduceEqDiff, Nat.reduceAdd, Nat.reduceMul, Nat.reduceSub, Nat.reduceLeDiff, ↓reduceIte, reduceCtorEq, Int.reduceAdd, Int.reduceSub, Int.reduceMul, Int.reduceNeg, Int.reduceToNat, List.reduceReplicate]
  refine (check_spec G q e t _ hq hl').mono ?_
  rintro _ H ⟨rfl, rfl⟩
  by_cases hc : chk q e t = 0
  · obtain ⟨hm, e0, e1, t0, t1⟩ := chk_zero hc
    obtain ⟨n, rfl⟩ : ∃ n : Nat, e = n := ⟨e.toNat, by omega⟩
    have hn : n < q.length := by omega
    simp (disch := omega) only [go_sem, Nat.reduceEqDiff, Nat.reduceAdd, Nat.reduceMul, Nat.reduceSub, Nat.reduceLeDiff, ↓reduceIte, reduceCtorEq, Int.reduceAdd, Int.reduceSub, Int.reduceMul, Int.reduceNeg, Int.reduceToNat, List.reduceReplicate, hc]
    refine (find_spec G q t _ hq hl').mono ?_
    rintro _ H ⟨rfl, rfl⟩
    cases hf : findP q t with
    | some p =>
      have hp : putL q n t = ([], 7) := by simp [putL, hc, hf]
      simp (disch := omega) only [go_sem, Nat.reduceEqDiff, Nat.reduceAdd, Nat.reduceMul, Nat.reduceSub, Nat.reduceLeDiff, ↓reduceIte, reduceCtorEq, Int.reduceAdd, Int.reduceSub, Int.reduceMul, Int.reduceNeg, Int.reduceToNat, List.reduceReplicate, findD, hm, hf]
      exact DFin.refl ⟨_, by rw [hp], by rw [hp]; exact .nil _ _ _, .refl _⟩
    | none =>
      have hp : putL q n t = (q.set n (q[n] ++ [t]), 0) := by simp [putL, hc, hf, hn]
      simp (disch := omega) only [go_sem, Nat.reduceEqDiff, Nat.reduceAdd, Nat.reduceMul, Nat.reduceSub, Nat.reduceLeDiff, ↓reduceIte, reduceCtorEq, Int.reduceAdd, Int.reduceSub, Int.reduceMul, Int.reduceNeg, Int.reduceToNat, List.reduceReplicate, findD, hm, hf]
      intro ra ha; dsimp only at ha
      simp (disch := omega) only [go_sem, Nat.reduceEqDiff, Nat.reduceAdd, Nat.reduceMul, Nat.reduceSub, Nat.reduceLeDiff, ↓reduceIte, reduceCtorEq, Int.reduceAdd, Int.reduceSub, Int.reduceMul, Int.reduceNeg, Int.reduceToNat, List.reduceReplicate]
      intro rb hb; dsimp only at hb
      simp only [upd_eq_none] at hb
      simp (disch := omega) only [go_sem, Nat.reduceEqDiff, Nat.reduceAdd, Nat.reduceMul, Nat.reduceSub, Nat.reduceLeDiff, ↓reduceIte, reduceCtorEq, Int.reduceAdd, Int.reduceSub, Int.reduceMul, Int.reduceNeg, Int.reduceToNat, List.reduceReplicate, hb]
      refine DCalls.fzA rb (by simp [upd, hb]) ?_
      simp (disch := omega) only [go_sem, Nat.reduceEqDiff, Nat.reduceAdd, Nat.reduceMul, Nat.reduceSub, Nat.reduceLeDiff, ↓reduceIte, reduceCtorEq, Int.reduceAdd, Int.reduceSub, Int.reduceMul, Int.reduceNeg, Int.reduceToNat, List.reduceReplicate, hb]
      refine DCalls.fzA ra ha ?_
      simp (disch := omega) only [go_sem, Nat.reduceEqDiff, Nat.reduceAdd, Nat.reduceMul, Nat.reduceSub, Nat.reduceLeDiff, ↓reduceIte, reduceCtorEq, Int.reduceAdd, Int.reduceSub, Int.reduceMul, Int.reduceNeg, Int.reduceToNat, List.reduceReplicate, hb]
      have hln := hl q[n] (List.getElem_mem hn)
      refine (concat_own G [q[n], [t]] _ (by simp) (by simp; omega)).mono ?_
      rintro _ H1 ⟨v, rfl, hv⟩
      simp (disch := omega) only [go_sem, Nat.reduceEqDiff, Nat.reduceAdd, Nat.reduceMul, Nat.reduceSub, Nat.reduceLeDiff, ↓reduceIte, reduceCtorEq, Int.reduceAdd, Int.reduceSub, Int.reduceMul, Int.reduceNeg, Int.reduceToNat, List.reduceReplicate]
      refine (with_own G q n ([q[n], [t]] : List (List Int)).flatten v H H1 hn hq hl' hv.ownV (hv.loose (looses_ints _)) hv.cell1.1 hv.cell1.2).mono ?_
      rintro _ H2 ⟨u, rfl, hu, huL⟩
      simp (disch := omega) only [go_sem, Nat.reduceEqDiff, Nat.reduceAdd, Nat.reduceMul, Nat.reduceSub, Nat.reduceLeDiff, ↓reduceIte, reduceCtorEq, Int.reduceAdd, Int.reduceSub, Int.reduceMul, Int.reduceNeg, Int.reduceToNat, List.reduceReplicate]
      exact DFin.refl ⟨u, by rw [hp], by rw [hp]; simpa using hu, huL⟩
  · have hp : putL q e t = ([], chk q e t) := by simp [putL, hc]
    simp (disch := omega) only [go_sem, Nat.reduceEqDiff, Nat.reduceAdd, Nat.reduceMul, Nat.reduceSub, Nat.reduceLeDiff, ↓reduceIte, reduceCtorEq, Int.reduceAdd, Int.reduceSub, Int.reduceMul, Int.reduceNeg, Int.reduceToNat, List.reduceReplicate, hc]
    exact DFin.refl ⟨_, by rw [hp], by rw [hp]; exact .nil _ _ _, .refl _⟩

theorem take_own (G : Nat → DVal) (q : List (List Int)) (e : Int) (H : DHeap) (hq : q.length ≤ 1099511627776) (hl : ∀ l ∈ q, l.length ≤ 1000000000) :
    DCalls Try.prog G 13 [dIss q, dI e] H fun x H' => ∃ u, x = .ret (.tuple [u, dI (takeL q e).2.1, dI (takeL q e).2.2]) ∧ OwnLL 3 37 H (takeL q e).1 u H' ∧ Loose H H' := by
  have hl' : ∀ l ∈ q, l.length ≤ 1099511627776 := fun l h => Nat.le_trans (hl l h) (by omega)
  refine dcalls_intro Try.func13 Try.call13 rfl (by kernel_rfl) ?_
  simp (disch := omega) only [go_sem, Nat.reduceEqDiff, Nat.reduceAdd, Nat.reduceMul, Nat.reduceSub, Nat.reduceLeDiff, ↓reduceIte, reduceCtorEq, Int.reduceAdd, Int.reduceSub, Int.reduceMul, Int.reduceNeg, Int.reduceToNat, List.reduceReplicate]
  refine (check_spec G q e 0 _ hq hl').mono ?_
  rintro _ H ⟨rfl, rfl⟩
  by_cases hc : chk q e 0 = 0
  · obtain ⟨hm, e0, e1, t0, t1⟩ := chk_zero hc
    obtain ⟨n, rfl⟩ : ∃ n : Nat, e = n := ⟨e.toNat, by omega⟩
    have hn : n < q.length := by omega
    have hg : q.getD n [] = q[n] := by simp [hn]
    have hln := hl q[n] (List.getElem_mem hn)
    have htk : ∀ {x}, (match q[n] with | [] => (([], 0, 6) : List (List Int) × Int × Int) | t :: l => (q.set n l, t, 0)) = x → takeL q n = x := fun h => by
      rw [takeL, if_neg (by rw [hc]; simp), Int.toNat_natCast, hg]; exact h
    cases hq2 : q[n] with
    | nil =>
      have htk := htk (x := ([], 0, 6)) (by rw [hq2])
      simp (disch := omega) only [go_sem, Nat.reduceEqDiff, Nat.reduceAdd, Nat.reduceMul, Nat.reduceSub, Nat.reduceLeDiff, ↓reduceIte, reduceCtorEq, Int.reduceAdd, Int.reduceSub, Int.reduceMul, Int.reduceNeg, Int.reduceToNat, List.reduceReplicate, hc, hq2]
      exact DFin.refl ⟨_, by rw [htk], by rw [htk]; exact .nil _ _ _, .refl _⟩
    | cons u l =>
      have htk := htk (x := (q.set n l, u, 0)) (by rw [hq2])
      rw [hq2] at hln
      simp only [List.length_cons] at hln
      simp (disch := omega) only [go_sem, Nat.reduceEqDiff, Nat.reduceAdd, Nat.reduceMul, Nat.reduceSub, Nat.reduceLeDiff, ↓reduceIte, reduceCtorEq, Int.reduceAdd, Int.reduceSub, Int.reduceMul, Int.reduceNeg, Int.reduceToNat, List.reduceReplicate, hc, hq2]
      refine dwp_draws (by kernel_rfl) (.take 0 (.take 1 (.take 2 (.take 3 (.take 6 (.take 7 (.take 8 (.go 4 [8] (.go 5 [8, 3] (.take 9 (.take 10 (.take 11 .done)))))))))))) (by kernel_rfl) ?_
      simp (disch := omega) only [go_sem, Nat.reduceEqDiff, Nat.reduceAdd, Nat.reduceMul, Nat.reduceSub, Nat.reduceLeDiff, ↓reduceIte, reduceCtorEq, Int.reduceAdd, Int.reduceSub, Int.reduceMul, Int.reduceNeg, Int.reduceToNat, List.reduceReplicate, hq2, List.map_cons]
      refine (clone_own G l _ (by omega)).mono ?_
      rintro _ H1 ⟨v, rfl, hv⟩
      simp (disch := omega) only [go_sem, Nat.reduceEqDiff, Nat.reduceAdd, Nat.reduceMul, Nat.reduceSub, Nat.reduceLeDiff, ↓reduceIte, reduceCtorEq, Int.reduceAdd, Int.reduceSub, Int.reduceMul, Int.reduceNeg, Int.reduceToNat, List.reduceReplicate]
      refine (with_own G q n l v H H1 hn hq hl' hv.ownV (hv.loose (looses_ints _)) hv.cell1.1 hv.cell1.2).mono ?_
      rintro _ H2 ⟨u2, rfl, hu, huL⟩
      simp (disch := omega) only [go_sem, Nat.reduceEqDiff, Nat.reduceAdd, Nat.reduceMul, Nat.reduceSub, Nat.reduceLeDiff, ↓reduceIte, reduceCtorEq, Int.reduceAdd, Int.reduceSub, Int.reduceMul, Int.reduceNeg, Int.reduceToNat, List.reduceReplicate]
      exact DFin.refl ⟨u2, by rw [htk], by rw [htk]; exact hu, huL⟩
  · have htk : takeL q e = ([], 0, chk q e 0) := by simp [takeL, hc]
    simp (disch := omega) only [go_sem, Nat.reduceEqDiff, Nat.reduceAdd, Nat.reduceMul, Nat.reduceSub, Nat.reduceLeDiff, ↓reduceIte, reduceCtorEq, Int.reduceAdd, Int.reduceSub, Int.reduceMul, Int.reduceNeg, Int.reduceToNat, List.reduceReplicate, hc]
    exact DFin.refl ⟨_, by rw [htk], by rw [htk]; exact .nil _ _ _, .refl _⟩

theorem remove_own (G : Nat → DVal) (q : List (List Int)) (t : Int) (H : DHeap) (hq : q.length ≤ 1099511627776) (hl : ∀ l ∈ q, l.length ≤ 1000000000) :
    DCalls Try.prog G 15 [dIss q, dI t] H fun x H' => ∃ u, x = .ret (.tuple [u, dI (removeL q t).2]) ∧ OwnLL 3 37 H (removeL q t).1 u H' ∧ Loose H H' := by
  have hl' : ∀ l ∈ q, l.length ≤ 1099511627776 := fun l h => Nat.le_trans (hl l h) (by omega)
  refine dcalls_intro Try.func15 Try.call15 rfl (by kernel_rfl) ?_
  simp (disch := omega) only [go_sem, Nat.reduceEqDiff, Nat.reduceAdd, Nat.reduceMul, Nat.reduceSub, Nat.reduceLeDiff, ↓reduceIte, reduceCtorEq, Int.reduceAdd, Int.reduceSub, Int.reduceMul, Int.reduceNeg, Int.reduceToNat, List.reduceReplicate]
  refine (may_spec G q _ hq hl').mono ?_
  rintro _ H ⟨rfl, rfl⟩
  cases hm : mayQ q with
  | false =>
    have hr : removeL q t = ([], 2) := by simp [removeL, hm]
    simp (disch := omega) only [go_sem, Nat.reduceEqDiff, Nat.reduceAdd, Nat.reduceMul, Nat.reduceSub, Nat.reduceLeDiff, ↓reduceIte, reduceCtorEq, Int.reduceAdd, Int.reduceSub, Int.reduceMul, Int.reduceNeg, Int.reduceToNat, List.reduceReplicate, hm]
    exact DFin.refl ⟨_, by rw [hr], by rw [hr]; exact .nil _ _ _, .refl _⟩
  | true =>
    have bad : ¬ (0 ≤ t ∧ t < 32) → removeL q t = ([], 4) := fun h => by rw [removeL, hm, if_neg (by simp), if_pos h]
    by_cases c1 : t < 0
    · have hr := bad (by omega)
      simp (disch := omega) only [go_sem, Nat.reduceEqDiff, Nat.reduceAdd, Nat.reduceMul, Nat.reduceSub, Nat.reduceLeDiff, ↓reduceIte, reduceCtorEq, Int.reduceAdd, Int.reduceSub, Int.reduceMul, Int.reduceNeg, Int.reduceToNat, List.reduceReplicate, hm]
      exact DFin.refl ⟨_, by rw [hr], by rw [hr]; exact .nil _ _ _, .refl _⟩
    by_cases c2 : 32 ≤ t
    · have hr := bad (by omega)
      simp (disch := omega) only [go_sem, Nat.reduceEqDiff, Nat.reduceAdd, Nat.reduceMul, Nat.reduceSub, Nat.reduceLeDiff, ↓reduceIte, reduceCtorEq, Int.reduceAdd, Int.reduceSub, Int.reduceMul, Int.reduceNeg, Int.reduceToNat, List.reduceReplicate, hm]
      exact DFin.refl ⟨_, by rw [hr], by rw [hr]; exact .nil _ _ _, .refl _⟩
    simp (disch := omega) only [go_sem, Nat.reduceEqDiff, Nat.reduceAdd, Nat.reduceMul, Nat.reduceSub, Nat.reduceLeDiff, ↓reduceIte, reduceCtorEq, Int.reduceAdd, Int.reduceSub, Int.reduceMul, Int.reduceNeg, Int.reduceToNat, List.reduceReplicate, hm]
    refine (find_spec G q t _ hq hl').mono ?_
    rintro _ H ⟨rfl, rfl⟩
    have hr : ∀ {x}, (match findP q t with
      | none => (([], 6) : List (List Int) × Int)
      | some p => (q.set p.1 ((q.getD p.1 []).eraseIdx (idx (q.getD p.1 []) t).toNat), 0)) = x → removeL q t = x := fun h => by
      rw [removeL, hm, if_neg (by simp), if_neg (by omega)]; exact h
    cases hf : findP q t with
    | none =>
      have hr := hr (x := ([], 6)) (by rw [hf])
      simp (disch := omega) only [go_sem, Nat.reduceEqDiff, Nat.reduceAdd, Nat.reduceMul, Nat.reduceSub, Nat.reduceLeDiff, ↓reduceIte, reduceCtorEq, Int.reduceAdd, Int.reduceSub, Int.reduceMul, Int.reduceNeg, Int.reduceToNat, List.reduceReplicate, findD, hm, hf]
      exact DFin.refl ⟨_, by rw [hr], by rw [hr]; exact .nil _ _ _, .refl _⟩
    | some p =>
      obtain ⟨hp, hp2, hp3⟩ := findP_mem hf
      obtain ⟨i, hi, hil⟩ := idx_found hp3
      have hln := hl q[p.1] (List.getElem_mem hp)
      have hg : q.getD p.1 [] = q[p.1] := by simp [hp]
      have hr := hr (x := (q.set p.1 (q[p.1].eraseIdx i), 0)) (by rw [hf]; simp only [hg, hi, Int.toNat_natCast])
      simp (disch := omega) only [go_sem, Nat.reduceEqDiff, Nat.reduceAdd, Nat.reduceMul, Nat.reduceSub, Nat.reduceLeDiff, ↓reduceIte, reduceCtorEq, Int.reduceAdd, Int.reduceSub, Int.reduceMul, Int.reduceNeg, Int.reduceToNat, List.reduceReplicate, findD, hm, hf, hg, hi]
      refine (clone_own G q[p.1] _ (by omega)).mono ?_
      rintro _ H1 ⟨v, rfl, hv⟩
      simp (disch := omega) only [go_sem, Nat.reduceEqDiff, Nat.reduceAdd, Nat.reduceMul, Nat.reduceSub, Nat.reduceLeDiff, ↓reduceIte, reduceCtorEq, Int.reduceAdd, Int.reduceSub, Int.reduceMul, Int.reduceNeg, Int.reduceToNat, List.reduceReplicate]
      refine (delete_raw G q[p.1] i v H H1 (by omega) hil hv).mono ?_
      rintro _ H2 ⟨r, hr0, rfl, rfl⟩
      simp (disch := omega) only [go_sem, Nat.reduceEqDiff, Nat.reduceAdd, Nat.reduceMul, Nat.reduceSub, Nat.reduceLeDiff, ↓reduceIte, reduceCtorEq, Int.reduceAdd, Int.reduceSub, Int.reduceMul, Int.reduceNeg, Int.reduceToNat, List.reduceReplicate]
      have hle : (q[p.1].eraseIdx i).length = q[p.1].length - 1 := by rw [List.length_eraseIdx, if_pos hil]
      refine (with_own G q p.1 (q[p.1].eraseIdx i) _ H _ hp hq hl' (.inr ⟨r, [], q[p.1].length, [dI 0], hr0, by rw [hle]; rfl, by rw [hle]; simp; omega, rfl⟩) ((Loose.refl H).upd (by show loose.looses ([] ++ _) = true; rw [List.nil_append]; exact looses_append.2 ⟨looses_ints _, rfl⟩)) rfl rfl).mono ?_
      rintro _ H3 ⟨u, rfl, hu, huL⟩
      simp (disch := omega) only [go_sem, Nat.reduceEqDiff, Nat.reduceAdd, Nat.reduceMul, Nat.reduceSub, Nat.reduceLeDiff, ↓reduceIte, reduceCtorEq, Int.reduceAdd, Int.reduceSub, Int.reduceMul, Int.reduceNeg, Int.reduceToNat, List.reduceReplicate]
      exact DFin.refl ⟨u, by rw [hr], by rw [hr]; exact hu, huL⟩
end Go.Dl

-- Own rows are looked at: Same is lent a [][]int of the call's own.
namespace Go.Dl
open Go Go.Proofs
set_option maxRecDepth 10000

theorem OwnV.sub {e : TypeId} {H H1 : DHeap} {l : List Int} {v : DVal} (h : OwnV e H l v H1) : ∀ r o, H r = some o → H1 r = some o := fun _ _ hr => h.keep hr
theorem OwnRows.sub {e : TypeId} {H : DHeap} : ∀ {q : List (List Int)} {vs : List DVal} {H1 : DHeap}, OwnRows e H q vs H1 → ∀ r o, H r = some o → H1 r = some o
  | [], _, _, h, r, o, hr => by rw [h.2]; exact hr
  | l :: q, vs, H1, h, r, o, hr => by
    obtain ⟨v, vs', H2, rfl, h1, h2⟩ := h
    exact h2.sub r o (h1.sub r o hr)
theorem OwnLL.sub {e e' : TypeId} {H H1 : DHeap} {q : List (List Int)} {v : DVal} (h : OwnLL e e' H q v H1) : ∀ r o, H r = some o → H1 r = some o := by
  rcases h with ⟨rfl, rfl, rfl⟩ | ⟨ro, vs, H2, h1, h2, rfl, rfl⟩
  · exact fun _ _ h => h
  · intro r o hr
    have := h1.sub r o hr
    have hne : r ≠ ro := fun e => by rw [e, h2] at this; cases this
    simp [upd, hne, this]

theorem lasts_h0 (H : DHeap) (w : World) : Lasts H w h0 w := lasts_sub (fun r o h => by cases h) w

theorem OwnRows.view {e : TypeId} {H : DHeap} {w : World} : ∀ {q : List (List Int)} {vs : List DVal} {H1 : DHeap}, OwnRows e H q vs H1 → SimHeap w H1 → ∀ xs, RelL w H1 vs xs → RelL w h0 (q.map dIs) xs
  | [], _, _, h, _, xs, hx => by
    obtain ⟨rfl, rfl⟩ := h
    simpa [RelL] using hx
  | l :: q, vs, H1, h, hw, xs, hx => by
    obtain ⟨v, vs', H2, rfl, h1, h2⟩ := h
    simp only [RelL, List.map_cons] at hx ⊢
    obtain ⟨y, ys, rfl, k1, k2⟩ := hx
    obtain ⟨g1, g2, g3⟩ := h2.ghost w hw
    exact ⟨y, ys, rfl, Rel.lasts (lasts_h0 _ w) _ _ (g3 y k1), h1.view g1 ys (RelL.lasts (lasts_sub h2.sub w) _ _ k2)⟩

/-- Own rows seen as memory that lasts. -/
theorem OwnLL.view {e e' : TypeId} {H H1 : DHeap} {q : List (List Int)} {v : DVal} (h : OwnLL e e' H q v H1) {w : World} (hw : SimHeap w H1) (x : Value) (hx : Rel w H1 v x) : Rel w h0 (dIss q) x := by
  rcases h with ⟨rfl, rfl, rfl⟩ | ⟨ro, vs, H2, h1, h2, rfl, rfl⟩
  · exact Rel.lasts (lasts_h0 _ w) _ _ (DLe.nil _ _ _ hx)
  · have g := GhostE.fz (v := .oslice 1 ro 0 q.length q.length) (upd_same H2 ro (some (.cells vs e')))
    rw [upd_none_self h2] at g
    simp only [Dl.fz, if_pos, List.drop_zero, Nat.mul_one] at g
    rw [← h1.len, List.take_length] at g
    obtain ⟨g1, _, g3⟩ := g w hw
    have hy := g3 x (by rw [h1.len]; exact hx)
    simp only [Rel, dIss] at hy ⊢
    obtain ⟨a, cap, rfl, hle, k⟩ := hy
    refine ⟨a, cap, by rw [h1.len], by rw [← h1.len]; exact hle, ?_⟩
    rcases k with rfl | ⟨b, o, ys, rfl, k1, k2⟩
    · refine .inl ?_
      have := h1.len
      cases q with
      | nil => rfl
      | cons l q => simp at this
    · exact .inr ⟨b, o, ys, rfl, k1.lasts (lasts_h0 _ w), h1.view g1 ys k2⟩

/-- v, in H1, is seen as q. -/
def Views (H1 : DHeap) (v : DVal) (q : List (List Int)) : Prop := ∀ w x, SimHeap w H1 → Rel w H1 v x → Rel w h0 (dIss q) x
theorem OwnLL.views {e e' : TypeId} {H H1 : DHeap} {q : List (List Int)} {v : DVal} (h : OwnLL e e' H q v H1) : Views H1 v q := fun _ x hw hx => h.view hw x hx
theorem Views.up {H1 H2 : DHeap} {v : DVal} {q : List (List Int)} (h : Views H1 v q) (hs : ∀ r o, H1 r = some o → H2 r = some o) : Views H2 v q := fun w x hw hx =>
  h w x (fun r o ho => (hw r o (hs r o ho)).lasts (lasts_sub hs w)) (Rel.lasts (lasts_sub hs w) _ _ hx)
theorem Views.frozen (H1 : DHeap) (q : List (List Int)) : Views H1 (dIss q) q := fun w _ _ hx => Rel.lasts (lasts_h0 _ w) _ _ hx

theorem same_own (G : Nat → DVal) (hG : ∀ g, ∃ r o, G g = .optr r o) (u v : DVal) (a b : List (List Int)) (H : DHeap) (hu : Views H u a) (hv : Views H v b) (ha : a.length ≤ 1099511627776) (hb : b.length ≤ 1099511627776) (hal : ∀ l ∈ a, l.length ≤ 1099511627776) (hbl : ∀ l ∈ b, l.length ≤ 1099511627776) :
    DCalls Try.prog G 17 [u, v] H (DRet (.bool (decide (a = b))) H) := by
  have h := DCalls.borrow (args := [u, v]) (H := H) (same_spec G a b h0 ha hb hal hbl) (fun w vs hw hx => ?_) (fun g => .inr (.inl (hG g))) (fun e H2 h => ⟨_, h.1, rfl⟩)
  · exact h.mono fun e H2 ⟨⟨H3, k1, k2⟩, k3⟩ => ⟨k1, k3⟩
  · simp only [RelL] at hx ⊢
    obtain ⟨y, ys, rfl, k1, z, zs, rfl, k2, k3⟩ := hx
    exact ⟨y, _, rfl, hu w y hw k1, z, zs, rfl, hv w z hw k2, k3⟩
end Go.Dl

-- The law's fixed examples (chapter 31).
namespace Go.Dl
open Go Go.Proofs
set_option maxRecDepth 10000

theorem awake31_spec (G : Nat → DVal) (H : DHeap) : DCalls Try.prog G 18 [] H (DRet (.bool true) H) := by
  refine dcalls_intro Try.func18 Try.call18 rfl (by kernel_rfl) ?_
  simp (disch := omega) only [go_sem, Nat.reduceEqDiff, Nat.reduceAdd, Nat.reduceMul, Nat.reduceSub, Nat.reduceLeDiff, ↓reduceIte, reduceCtorEq, Int.reduceAdd, Int.reduceSub, Int.reduceMul, Int.reduceNeg, Int.reduceToNat, List.reduceReplicate]
  (intro a17 ha17; dsimp only at ha17; try simp only [upd_eq_none] at ha17)
  (try simp (disch := omega) only [go_sem, Nat.reduceEqDiff, Nat.reduceAdd, Nat.reduceMul, Nat.reduceSub, Nat.reduceLeDiff, ↓reduceIte, reduceCtorEq, Int.reduceAdd, Int.reduceSub, Int.reduceMul, Int.reduceNeg, Int.reduceToNat, List.reduceReplicate, ha17])
  (intro a18 ha18; dsimp only at ha18; try simp only [upd_eq_none] at ha18)
  (try simp (disch := omega) only [go_sem, Nat.reduceEqDiff, Nat.reduceAdd, Nat.reduceMul, Nat.reduceSub, Nat.reduceLeDiff, ↓reduceIte, reduceCtorEq, Int.reduceAdd, Int.reduceSub, Int.reduceMul, Int.reduceNeg, Int.reduceToNat, List.reduceReplicate, ha17, ha18])
  (intro a19 ha19; dsimp only at ha19; try simp only [upd_eq_none] at ha19)
  (try simp (disch := omega) only [go_sem, Nat.reduceEqDiff, Nat.reduceAdd, Nat.reduceMul, Nat.reduceSub, Nat.reduceLeDiff, ↓reduceIte, reduceCtorEq, Int.reduceAdd, Int.reduceSub, Int.reduceMul, Int.reduceNeg, Int.reduceToNat, List.reduceReplicate, ha17, ha18, ha19])
  refine DCalls.fzA a19 (by simp [upd, ha17, ha18, ha19]) ?_
  (try simp (disch := omega) only [go_sem, Nat.reduceEqDiff, Nat.reduceAdd, Nat.reduceMul, Nat.reduceSub, Nat.reduceLeDiff, ↓reduceIte, reduceCtorEq, Int.reduceAdd, Int.reduceSub, Int.reduceMul, Int.reduceNeg, Int.reduceToNat, List.reduceReplicate, ha17, ha18, ha19])
  refine DCalls.fzA a18 (by simp [upd, ha17, ha18, ha19]) ?_
  (try simp (disch := omega) only [go_sem, Nat.reduceEqDiff, Nat.reduceAdd, Nat.reduceMul, Nat.reduceSub, Nat.reduceLeDiff, ↓reduceIte, reduceCtorEq, Int.reduceAdd, Int.reduceSub, Int.reduceMul, Int.reduceNeg, Int.reduceToNat, List.reduceReplicate, ha17, ha18, ha19])
  refine DCalls.fzA a17 (by simp [upd, ha17, ha18, ha19]) ?_
  (try simp (disch := omega) only [go_sem, Nat.reduceEqDiff, Nat.reduceAdd, Nat.reduceMul, Nat.reduceSub, Nat.reduceLeDiff, ↓reduceIte, reduceCtorEq, Int.reduceAdd, Int.reduceSub, Int.reduceMul, Int.reduceNeg, Int.reduceToNat, List.reduceReplicate, ha17, ha18, ha19])
  refine (put_spec G [[1], [2]] 0 3 _ (by decide) (by decide)).mono ?_
  rintro _ H ⟨rfl, rfl⟩
  rw [show putL [[1], [2]] 0 3 = ([[1, 3], [2]], 0) by decide]
  simp (disch := omega) only [go_sem, Nat.reduceEqDiff, Nat.reduceAdd, Nat.reduceMul, Nat.reduceSub, Nat.reduceLeDiff, ↓reduceIte, reduceCtorEq, Int.reduceAdd, Int.reduceSub, Int.reduceMul, Int.reduceNeg, Int.reduceToNat, List.reduceReplicate]
  (intro a24 ha24; dsimp only at ha24; try simp only [upd_eq_none] at ha24)
  (try simp (disch := omega) only [go_sem, Nat.reduceEqDiff, Nat.reduceAdd, Nat.reduceMul, Nat.reduceSub, Nat.reduceLeDiff, ↓reduceIte, reduceCtorEq, Int.reduceAdd, Int.reduceSub, Int.reduceMul, Int.reduceNeg, Int.reduceToNat, List.reduceReplicate, ha24])
  (intro a25 ha25; dsimp only at ha25; try simp only [upd_eq_none] at ha25)
  (try simp (disch := omega) only [go_sem, Nat.reduceEqDiff, Nat.reduceAdd, Nat.reduceMul, Nat.reduceSub, Nat.reduceLeDiff, ↓reduceIte, reduceCtorEq, Int.reduceAdd, Int.reduceSub, Int.reduceMul, Int.reduceNeg, Int.reduceToNat, List.reduceReplicate, ha24, ha25])
  (intro a26 ha26; dsimp only at ha26; try simp only [upd_eq_none] at ha26)
  (try simp (disch := omega) only [go_sem, Nat.reduceEqDiff, Nat.reduceAdd, Nat.reduceMul, Nat.reduceSub, Nat.reduceLeDiff, ↓reduceIte, reduceCtorEq, Int.reduceAdd, Int.reduceSub, Int.reduceMul, Int.reduceNeg, Int.reduceToNat, List.reduceReplicate, ha24, ha25, ha26])
  refine DCalls.fzA a26 (by simp [upd, ha24, ha25, ha26]) ?_
  (try simp (disch := omega) only [go_sem, Nat.reduceEqDiff, Nat.reduceAdd, Nat.reduceMul, Nat.reduceSub, Nat.reduceLeDiff, ↓reduceIte, reduceCtorEq, Int.reduceAdd, Int.reduceSub, Int.reduceMul, Int.reduceNeg, Int.reduceToNat, List.reduceReplicate, ha24, ha25, ha26])
  refine DCalls.fzA a25 (by simp [upd, ha24, ha25, ha26]) ?_
  (try simp (disch := omega) only [go_sem, Nat.reduceEqDiff, Nat.reduceAdd, Nat.reduceMul, Nat.reduceSub, Nat.reduceLeDiff, ↓reduceIte, reduceCtorEq, Int.reduceAdd, Int.reduceSub, Int.reduceMul, Int.reduceNeg, Int.reduceToNat, List.reduceReplicate, ha24, ha25, ha26])
  refine DCalls.fzA a24 (by simp [upd, ha24, ha25, ha26]) ?_
  (try simp (disch := omega) only [go_sem, Nat.reduceEqDiff, Nat.reduceAdd, Nat.reduceMul, Nat.reduceSub, Nat.reduceLeDiff, ↓reduceIte, reduceCtorEq, Int.reduceAdd, Int.reduceSub, Int.reduceMul, Int.reduceNeg, Int.reduceToNat, List.reduceReplicate, ha24, ha25, ha26])
  refine (put_spec G [[1], [2]] 0 2 _ (by decide) (by decide)).mono ?_
  rintro _ H ⟨rfl, rfl⟩
  rw [show putL [[1], [2]] 0 2 = ([], 7) by decide]
  simp (disch := omega) only [go_sem, Nat.reduceEqDiff, Nat.reduceAdd, Nat.reduceMul, Nat.reduceSub, Nat.reduceLeDiff, ↓reduceIte, reduceCtorEq, Int.reduceAdd, Int.reduceSub, Int.reduceMul, Int.reduceNeg, Int.reduceToNat, List.reduceReplicate]
  (intro a31 ha31; dsimp only at ha31; try simp only [upd_eq_none] at ha31)
  (try simp (disch := omega) only [go_sem, Nat.reduceEqDiff, Nat.reduceAdd, Nat.reduceMul, Nat.reduceSub, Nat.reduceLeDiff, ↓reduceIte, reduceCtorEq, Int.reduceAdd, Int.reduceSub, Int.reduceMul, Int.reduceNeg, Int.reduceToNat, List.reduceReplicate, ha31])
  (intro a32 ha32; dsimp only at ha32; try simp only [upd_eq_none] at ha32)
  (try simp (disch := omega) only [go_sem, Nat.reduceEqDiff, Nat.reduceAdd, Nat.reduceMul, Nat.reduceSub, Nat.reduceLeDiff, ↓reduceIte, reduceCtorEq, Int.reduceAdd, Int.reduceSub, Int.reduceMul, Int.reduceNeg, Int.reduceToNat, List.reduceReplicate, ha31, ha32])
  (intro a33 ha33; dsimp only at ha33; try simp only [upd_eq_none] at ha33)
  (try simp (disch := omega) only [go_sem, Nat.reduceEqDiff, Nat.reduceAdd, Nat.reduceMul, Nat.reduceSub, Nat.reduceLeDiff, ↓reduceIte, reduceCtorEq, Int.reduceAdd, Int.reduceSub, Int.reduceMul, Int.reduceNeg, Int.reduceToNat, List.reduceReplicate, ha31, ha32, ha33])
  refine DCalls.fzA a33 (by simp [upd, ha31, ha32, ha33]) ?_
  (try simp (disch := omega) only [go_sem, Nat.reduceEqDiff, Nat.reduceAdd, Nat.reduceMul, Nat.reduceSub, Nat.reduceLeDiff, ↓reduceIte, reduceCtorEq, Int.reduceAdd, Int.reduceSub, Int.reduceMul, Int.reduceNeg, Int.reduceToNat, List.reduceReplicate, ha31, ha32, ha33])
  refine DCalls.fzA a32 (by simp [upd, ha31, ha32, ha33]) ?_
  (try simp (disch := omega) only [go_sem, Nat.reduceEqDiff, Nat.reduceAdd, Nat.reduceMul, Nat.reduceSub, Nat.reduceLeDiff, ↓reduceIte, reduceCtorEq, Int.reduceAdd, Int.reduceSub, Int.reduceMul, Int.reduceNeg, Int.reduceToNat, List.reduceReplicate, ha31, ha32, ha33])
  refine DCalls.fzA a31 (by simp [upd, ha31, ha32, ha33]) ?_
  (try simp (disch := omega) only [go_sem, Nat.reduceEqDiff, Nat.reduceAdd, Nat.reduceMul, Nat.reduceSub, Nat.reduceLeDiff, ↓reduceIte, reduceCtorEq, Int.reduceAdd, Int.reduceSub, Int.reduceMul, Int.reduceNeg, Int.reduceToNat, List.reduceReplicate, ha31, ha32, ha33])
  refine (take_spec G [[1, 3], [2]] 0 _ (by decide) (by decide)).mono ?_
  rintro _ H ⟨rfl, rfl⟩
  rw [show takeL [[1, 3], [2]] 0 = ([[3], [2]], 1, 0) by decide]
  simp (disch := omega) only [go_sem, Nat.reduceEqDiff, Nat.reduceAdd, Nat.reduceMul, Nat.reduceSub, Nat.reduceLeDiff, ↓reduceIte, reduceCtorEq, Int.reduceAdd, Int.reduceSub, Int.reduceMul, Int.reduceNeg, Int.reduceToNat, List.reduceReplicate]
  (intro a39 ha39; dsimp only at ha39; try simp only [upd_eq_none] at ha39)
  (try simp (disch := omega) only [go_sem, Nat.reduceEqDiff, Nat.reduceAdd, Nat.reduceMul, Nat.reduceSub, Nat.reduceLeDiff, ↓reduceIte, reduceCtorEq, Int.reduceAdd, Int.reduceSub, Int.reduceMul, Int.reduceNeg, Int.reduceToNat, List.reduceReplicate, ha39])
  (intro a40 ha40; dsimp only at ha40; try simp only [upd_eq_none] at ha40)
  (try simp (disch := omega) only [go_sem, Nat.reduceEqDiff, Nat.reduceAdd, Nat.reduceMul, Nat.reduceSub, Nat.reduceLeDiff, ↓reduceIte, reduceCtorEq, Int.reduceAdd, Int.reduceSub, Int.reduceMul, Int.reduceNeg, Int.reduceToNat, List.reduceReplicate, ha39, ha40])
  (intro a41 ha41; dsimp only at ha41; try simp only [upd_eq_none] at ha41)
  (try simp (disch := omega) only [go_sem, Nat.reduceEqDiff, Nat.reduceAdd, Nat.reduceMul, Nat.reduceSub, Nat.reduceLeDiff, ↓reduceIte, reduceCtorEq, Int.reduceAdd, Int.reduceSub, Int.reduceMul, Int.reduceNeg, Int.reduceToNat, List.reduceReplicate, ha39, ha40, ha41])
  refine DCalls.fzA a41 (by simp [upd, ha39, ha40, ha41]) ?_
  (try simp (disch := omega) only [go_sem, Nat.reduceEqDiff, Nat.reduceAdd, Nat.reduceMul, Nat.reduceSub, Nat.reduceLeDiff, ↓reduceIte, reduceCtorEq, Int.reduceAdd, Int.reduceSub, Int.reduceMul, Int.reduceNeg, Int.reduceToNat, List.reduceReplicate, ha39, ha40, ha41])
  refine DCalls.fzA a40 (by simp [upd, ha39, ha40, ha41]) ?_
  (try simp (disch := omega) only [go_sem, Nat.reduceEqDiff, Nat.reduceAdd, Nat.reduceMul, Nat.reduceSub, Nat.reduceLeDiff, ↓reduceIte, reduceCtorEq, Int.reduceAdd, Int.reduceSub, Int.reduceMul, Int.reduceNeg, Int.reduceToNat, List.reduceReplicate, ha39, ha40, ha41])
  refine DCalls.fzA a39 (by simp [upd, ha39, ha40, ha41]) ?_
  (try simp (disch := omega) only [go_sem, Nat.reduceEqDiff, Nat.reduceAdd, Nat.reduceMul, Nat.reduceSub, Nat.reduceLeDiff, ↓reduceIte, reduceCtorEq, Int.reduceAdd, Int.reduceSub, Int.reduceMul, Int.reduceNeg, Int.reduceToNat, List.reduceReplicate, ha39, ha40, ha41])
  refine (remove_spec G [[1, 3, 4], [2]] 3 _ (by decide) (by decide)).mono ?_
  rintro _ H ⟨rfl, rfl⟩
  rw [show removeL [[1, 3, 4], [2]] 3 = ([[1, 4], [2]], 0) by decide]
  simp (disch := omega) only [go_sem, Nat.reduceEqDiff, Nat.reduceAdd, Nat.reduceMul, Nat.reduceSub, Nat.reduceLeDiff, ↓reduceIte, reduceCtorEq, Int.reduceAdd, Int.reduceSub, Int.reduceMul, Int.reduceNeg, Int.reduceToNat, List.reduceReplicate]
  (intro a46 ha46; dsimp only at ha46; try simp only [upd_eq_none] at ha46)
  (try simp (disch := omega) only [go_sem, Nat.reduceEqDiff, Nat.reduceAdd, Nat.reduceMul, Nat.reduceSub, Nat.reduceLeDiff, ↓reduceIte, reduceCtorEq, Int.reduceAdd, Int.reduceSub, Int.reduceMul, Int.reduceNeg, Int.reduceToNat, List.reduceReplicate, ha46])
  (intro a47 ha47; dsimp only at ha47; try simp only [upd_eq_none] at ha47)
  (try simp (disch := omega) only [go_sem, Nat.reduceEqDiff, Nat.reduceAdd, Nat.reduceMul, Nat.reduceSub, Nat.reduceLeDiff, ↓reduceIte, reduceCtorEq, Int.reduceAdd, Int.reduceSub, Int.reduceMul, Int.reduceNeg, Int.reduceToNat, List.reduceReplicate, ha46, ha47])
  (intro a48 ha48; dsimp only at ha48; try simp only [upd_eq_none] at ha48)
  (try simp (disch := omega) only [go_sem, Nat.reduceEqDiff, Nat.reduceAdd, Nat.reduceMul, Nat.reduceSub, Nat.reduceLeDiff, ↓reduceIte, reduceCtorEq, Int.reduceAdd, Int.reduceSub, Int.reduceMul, Int.reduceNeg, Int.reduceToNat, List.reduceReplicate, ha46, ha47, ha48])
  (intro a49 ha49; dsimp only at ha49; try simp only [upd_eq_none] at ha49)
  (try simp (disch := omega) only [go_sem, Nat.reduceEqDiff, Nat.reduceAdd, Nat.reduceMul, Nat.reduceSub, Nat.reduceLeDiff, ↓reduceIte, reduceCtorEq, Int.reduceAdd, Int.reduceSub, Int.reduceMul, Int.reduceNeg, Int.reduceToNat, List.reduceReplicate, ha46, ha47, ha48, ha49])
  refine DCalls.fzA a49 (by simp [upd, ha46, ha47, ha48, ha49]) ?_
  (try simp (disch := omega) only [go_sem, Nat.reduceEqDiff, Nat.reduceAdd, Nat.reduceMul, Nat.reduceSub, Nat.reduceLeDiff, ↓reduceIte, reduceCtorEq, Int.reduceAdd, Int.reduceSub, Int.reduceMul, Int.reduceNeg, Int.reduceToNat, List.reduceReplicate, ha46, ha47, ha48, ha49])
  refine DCalls.fzA a48 (by simp [upd, ha46, ha47, ha48, ha49]) ?_
  (try simp (disch := omega) only [go_sem, Nat.reduceEqDiff, Nat.reduceAdd, Nat.reduceMul, Nat.reduceSub, Nat.reduceLeDiff, ↓reduceIte, reduceCtorEq, Int.reduceAdd, Int.reduceSub, Int.reduceMul, Int.reduceNeg, Int.reduceToNat, List.reduceReplicate, ha46, ha47, ha48, ha49])
  refine DCalls.fzA a47 (by simp [upd, ha46, ha47, ha48, ha49]) ?_
  (try simp (disch := omega) only [go_sem, Nat.reduceEqDiff, Nat.reduceAdd, Nat.reduceMul, Nat.reduceSub, Nat.reduceLeDiff, ↓reduceIte, reduceCtorEq, Int.reduceAdd, Int.reduceSub, Int.reduceMul, Int.reduceNeg, Int.reduceToNat, List.reduceReplicate, ha46, ha47, ha48, ha49])
  refine DCalls.fzA a46 (by simp [upd, ha46, ha47, ha48, ha49]) ?_
  (try simp (disch := omega) only [go_sem, Nat.reduceEqDiff, Nat.reduceAdd, Nat.reduceMul, Nat.reduceSub, Nat.reduceLeDiff, ↓reduceIte, reduceCtorEq, Int.reduceAdd, Int.reduceSub, Int.reduceMul, Int.reduceNeg, Int.reduceToNat, List.reduceReplicate, ha46, ha47, ha48, ha49])
  refine DCalls.leArgs (.cons (DLe.vslice _ (.cons .nil (.refl _))) (.refl _)) ?_
  refine (open_spec G [[], [5, 6], [7]] [true, false, true] _ (by decide) (by decide) (by decide)).mono ?_
  rintro _ H ⟨rfl, rfl⟩
  rw [show openD [[], [5, 6], [7]] [true, false, true] = .tuple [dI 2, dI 7, .bool true] from rfl]
  simp (disch := omega) only [go_sem, Nat.reduceEqDiff, Nat.reduceAdd, Nat.reduceMul, Nat.reduceSub, Nat.reduceLeDiff, ↓reduceIte, reduceCtorEq, Int.reduceAdd, Int.reduceSub, Int.reduceMul, Int.reduceNeg, Int.reduceToNat, List.reduceReplicate]
  (intro a55 ha55; dsimp only at ha55; try simp only [upd_eq_none] at ha55)
  (try simp (disch := omega) only [go_sem, Nat.reduceEqDiff, Nat.reduceAdd, Nat.reduceMul, Nat.reduceSub, Nat.reduceLeDiff, ↓reduceIte, reduceCtorEq, Int.reduceAdd, Int.reduceSub, Int.reduceMul, Int.reduceNeg, Int.reduceToNat, List.reduceReplicate, ha55])
  (intro a56 ha56; dsimp only at ha56; try simp only [upd_eq_none] at ha56)
  (try simp (disch := omega) only [go_sem, Nat.reduceEqDiff, Nat.reduceAdd, Nat.reduceMul, Nat.reduceSub, Nat.reduceLeDiff, ↓reduceIte, reduceCtorEq, Int.reduceAdd, Int.reduceSub, Int.reduceMul, Int.reduceNeg, Int.reduceToNat, List.reduceReplicate, ha55, ha56])
  (intro a57 ha57; dsimp only at ha57; try simp only [upd_eq_none] at ha57)
  (try simp (disch := omega) only [go_sem, Nat.reduceEqDiff, Nat.reduceAdd, Nat.reduceMul, Nat.reduceSub, Nat.reduceLeDiff, ↓reduceIte, reduceCtorEq, Int.reduceAdd, Int.reduceSub, Int.reduceMul, Int.reduceNeg, Int.reduceToNat, List.reduceReplicate, ha55, ha56, ha57])
  refine DCalls.fzA a57 (by simp [upd, ha55, ha56, ha57]) ?_
  (try simp (disch := omega) only [go_sem, Nat.reduceEqDiff, Nat.reduceAdd, Nat.reduceMul, Nat.reduceSub, Nat.reduceLeDiff, ↓reduceIte, reduceCtorEq, Int.reduceAdd, Int.reduceSub, Int.reduceMul, Int.reduceNeg, Int.reduceToNat, List.reduceReplicate, ha55, ha56, ha57])
  refine DCalls.fzA a56 (by simp [upd, ha55, ha56, ha57]) ?_
  (try simp (disch := omega) only [go_sem, Nat.reduceEqDiff, Nat.reduceAdd, Nat.reduceMul, Nat.reduceSub, Nat.reduceLeDiff, ↓reduceIte, reduceCtorEq, Int.reduceAdd, Int.reduceSub, Int.reduceMul, Int.reduceNeg, Int.reduceToNat, List.reduceReplicate, ha55, ha56, ha57])
  refine DCalls.fzA a55 (by simp [upd, ha55, ha56, ha57]) ?_
  (try simp (disch := omega) only [go_sem, Nat.reduceEqDiff, Nat.reduceAdd, Nat.reduceMul, Nat.reduceSub, Nat.reduceLeDiff, ↓reduceIte, reduceCtorEq, Int.reduceAdd, Int.reduceSub, Int.reduceMul, Int.reduceNeg, Int.reduceToNat, List.reduceReplicate, ha55, ha56, ha57])
  refine DCalls.leArgs (.cons (DLe.vslice _ (.cons .nil (.refl _))) (.refl _)) ?_
  refine (choose_spec G [[], [4]] [0, 1, 1] _ (by decide) (by decide) (by decide) (by decide)).mono ?_
  rintro _ H ⟨rfl, rfl⟩
  rw [show chooseD [[], [4]] [0, 1, 1] = .tuple [dI 1, .bool true] from rfl]
  simp (disch := omega) only [go_sem, Nat.reduceEqDiff, Nat.reduceAdd, Nat.reduceMul, Nat.reduceSub, Nat.reduceLeDiff, ↓reduceIte, reduceCtorEq, Int.reduceAdd, Int.reduceSub, Int.reduceMul, Int.reduceNeg, Int.reduceToNat, List.reduceReplicate]
  (intro a65 ha65; dsimp only at ha65; try simp only [upd_eq_none] at ha65)
  (try simp (disch := omega) only [go_sem, Nat.reduceEqDiff, Nat.reduceAdd, Nat.reduceMul, Nat.reduceSub, Nat.reduceLeDiff, ↓reduceIte, reduceCtorEq, Int.reduceAdd, Int.reduceSub, Int.reduceMul, Int.reduceNeg, Int.reduceToNat, List.reduceReplicate, ha65])
  (intro a66 ha66; dsimp only at ha66; try simp only [upd_eq_none] at ha66)
  (try simp (disch := omega) only [go_sem, Nat.reduceEqDiff, Nat.reduceAdd, Nat.reduceMul, Nat.reduceSub, Nat.reduceLeDiff, ↓reduceIte, reduceCtorEq, Int.reduceAdd, Int.reduceSub, Int.reduceMul, Int.reduceNeg, Int.reduceToNat, List.reduceReplicate, ha65, ha66])
  (intro a67 ha67; dsimp only at ha67; try simp only [upd_eq_none] at ha67)
  (try simp (disch := omega) only [go_sem, Nat.reduceEqDiff, Nat.reduceAdd, Nat.reduceMul, Nat.reduceSub, Nat.reduceLeDiff, ↓reduceIte, reduceCtorEq, Int.reduceAdd, Int.reduceSub, Int.reduceMul, Int.reduceNeg, Int.reduceToNat, List.reduceReplicate, ha65, ha66, ha67])
  refine DCalls.fzA a67 (by simp [upd, ha65, ha66, ha67]) ?_
  (try simp (disch := omega) only [go_sem, Nat.reduceEqDiff, Nat.reduceAdd, Nat.reduceMul, Nat.reduceSub, Nat.reduceLeDiff, ↓reduceIte, reduceCtorEq, Int.reduceAdd, Int.reduceSub, Int.reduceMul, Int.reduceNeg, Int.reduceToNat, List.reduceReplicate, ha65, ha66, ha67])
  refine DCalls.fzA a66 (by simp [upd, ha65, ha66, ha67]) ?_
  (try simp (disch := omega) only [go_sem, Nat.reduceEqDiff, Nat.reduceAdd, Nat.reduceMul, Nat.reduceSub, Nat.reduceLeDiff, ↓reduceIte, reduceCtorEq, Int.reduceAdd, Int.reduceSub, Int.reduceMul, Int.reduceNeg, Int.reduceToNat, List.reduceReplicate, ha65, ha66, ha67])
  refine DCalls.fzA a65 (by simp [upd, ha65, ha66, ha67]) ?_
  (try simp (disch := omega) only [go_sem, Nat.reduceEqDiff, Nat.reduceAdd, Nat.reduceMul, Nat.reduceSub, Nat.reduceLeDiff, ↓reduceIte, reduceCtorEq, Int.reduceAdd, Int.reduceSub, Int.reduceMul, Int.reduceNeg, Int.reduceToNat, List.reduceReplicate, ha65, ha66, ha67])
  refine (same_spec G [[1, 3], [2]] [[1, 3], [2]] _ (by decide) (by decide) (by decide) (by decide)).mono ?_
  rintro _ H ⟨rfl, rfl⟩
  simp (disch := omega) only [go_sem, Nat.reduceEqDiff, Nat.reduceAdd, Nat.reduceMul, Nat.reduceSub, Nat.reduceLeDiff, ↓reduceIte, reduceCtorEq, Int.reduceAdd, Int.reduceSub, Int.reduceMul, Int.reduceNeg, Int.reduceToNat, List.reduceReplicate]
  (intro a84 ha84; dsimp only at ha84; try simp only [upd_eq_none] at ha84)
  (try simp (disch := omega) only [go_sem, Nat.reduceEqDiff, Nat.reduceAdd, Nat.reduceMul, Nat.reduceSub, Nat.reduceLeDiff, ↓reduceIte, reduceCtorEq, Int.reduceAdd, Int.reduceSub, Int.reduceMul, Int.reduceNeg, Int.reduceToNat, List.reduceReplicate, ha84])
  (intro a85 ha85; dsimp only at ha85; try simp only [upd_eq_none] at ha85)
  (try simp (disch := omega) only [go_sem, Nat.reduceEqDiff, Nat.reduceAdd, Nat.reduceMul, Nat.reduceSub, Nat.reduceLeDiff, ↓reduceIte, reduceCtorEq, Int.reduceAdd, Int.reduceSub, Int.reduceMul, Int.reduceNeg, Int.reduceToNat, List.reduceReplicate, ha84, ha85])
  (intro a86 ha86; dsimp only at ha86; try simp only [upd_eq_none] at ha86)
  (try simp (disch := omega) only [go_sem, Nat.reduceEqDiff, Nat.reduceAdd, Nat.reduceMul, Nat.reduceSub, Nat.reduceLeDiff, ↓reduceIte, reduceCtorEq, Int.reduceAdd, Int.reduceSub, Int.reduceMul, Int.reduceNeg, Int.reduceToNat, List.reduceReplicate, ha84, ha85, ha86])
  refine DCalls.fzA a86 (by simp [upd, ha84, ha85, ha86]) ?_
  (try simp (disch := omega) only [go_sem, Nat.reduceEqDiff, Nat.reduceAdd, Nat.reduceMul, Nat.reduceSub, Nat.reduceLeDiff, ↓reduceIte, reduceCtorEq, Int.reduceAdd, Int.reduceSub, Int.reduceMul, Int.reduceNeg, Int.reduceToNat, List.reduceReplicate, ha84, ha85, ha86])
  refine DCalls.fzA a85 (by simp [upd, ha84, ha85, ha86]) ?_
  (try simp (disch := omega) only [go_sem, Nat.reduceEqDiff, Nat.reduceAdd, Nat.reduceMul, Nat.reduceSub, Nat.reduceLeDiff, ↓reduceIte, reduceCtorEq, Int.reduceAdd, Int.reduceSub, Int.reduceMul, Int.reduceNeg, Int.reduceToNat, List.reduceReplicate, ha84, ha85, ha86])
  refine DCalls.fzA a84 (by simp [upd, ha84, ha85, ha86]) ?_
  (try simp (disch := omega) only [go_sem, Nat.reduceEqDiff, Nat.reduceAdd, Nat.reduceMul, Nat.reduceSub, Nat.reduceLeDiff, ↓reduceIte, reduceCtorEq, Int.reduceAdd, Int.reduceSub, Int.reduceMul, Int.reduceNeg, Int.reduceToNat, List.reduceReplicate, ha84, ha85, ha86])
  refine (same_spec G [[3], [2]] [[3], [2]] _ (by decide) (by decide) (by decide) (by decide)).mono ?_
  rintro _ H ⟨rfl, rfl⟩
  simp (disch := omega) only [go_sem, Nat.reduceEqDiff, Nat.reduceAdd, Nat.reduceMul, Nat.reduceSub, Nat.reduceLeDiff, ↓reduceIte, reduceCtorEq, Int.reduceAdd, Int.reduceSub, Int.reduceMul, Int.reduceNeg, Int.reduceToNat, List.reduceReplicate]
  (intro a96 ha96; dsimp only at ha96; try simp only [upd_eq_none] at ha96)
  (try simp (disch := omega) only [go_sem, Nat.reduceEqDiff, Nat.reduceAdd, Nat.reduceMul, Nat.reduceSub, Nat.reduceLeDiff, ↓reduceIte, reduceCtorEq, Int.reduceAdd, Int.reduceSub, Int.reduceMul, Int.reduceNeg, Int.reduceToNat, List.reduceReplicate, ha96])
  (intro a97 ha97; dsimp only at ha97; try simp only [upd_eq_none] at ha97)
  (try simp (disch := omega) only [go_sem, Nat.reduceEqDiff, Nat.reduceAdd, Nat.reduceMul, Nat.reduceSub, Nat.reduceLeDiff, ↓reduceIte, reduceCtorEq, Int.reduceAdd, Int.reduceSub, Int.reduceMul, Int.reduceNeg, Int.reduceToNat, List.reduceReplicate, ha96, ha97])
  (intro a98 ha98; dsimp only at ha98; try simp only [upd_eq_none] at ha98)
  (try simp (disch := omega) only [go_sem, Nat.reduceEqDiff, Nat.reduceAdd, Nat.reduceMul, Nat.reduceSub, Nat.reduceLeDiff, ↓reduceIte, reduceCtorEq, Int.reduceAdd, Int.reduceSub, Int.reduceMul, Int.reduceNeg, Int.reduceToNat, List.reduceReplicate, ha96, ha97, ha98])
  refine DCalls.fzA a98 (by simp [upd, ha96, ha97, ha98]) ?_
  (try simp (disch := omega) only [go_sem, Nat.reduceEqDiff, Nat.reduceAdd, Nat.reduceMul, Nat.reduceSub, Nat.reduceLeDiff, ↓reduceIte, reduceCtorEq, Int.reduceAdd, Int.reduceSub, Int.reduceMul, Int.reduceNeg, Int.reduceToNat, List.reduceReplicate, ha96, ha97, ha98])
  refine DCalls.fzA a97 (by simp [upd, ha96, ha97, ha98]) ?_
  (try simp (disch := omega) only [go_sem, Nat.reduceEqDiff, Nat.reduceAdd, Nat.reduceMul, Nat.reduceSub, Nat.reduceLeDiff, ↓reduceIte, reduceCtorEq, Int.reduceAdd, Int.reduceSub, Int.reduceMul, Int.reduceNeg, Int.reduceToNat, List.reduceReplicate, ha96, ha97, ha98])
  refine DCalls.fzA a96 (by simp [upd, ha96, ha97, ha98]) ?_
  (try simp (disch := omega) only [go_sem, Nat.reduceEqDiff, Nat.reduceAdd, Nat.reduceMul, Nat.reduceSub, Nat.reduceLeDiff, ↓reduceIte, reduceCtorEq, Int.reduceAdd, Int.reduceSub, Int.reduceMul, Int.reduceNeg, Int.reduceToNat, List.reduceReplicate, ha96, ha97, ha98])
  refine (same_spec G [[1, 4], [2]] [[1, 4], [2]] _ (by decide) (by decide) (by decide) (by decide)).mono ?_
  rintro _ H ⟨rfl, rfl⟩
  simp (disch := omega) only [go_sem, Nat.reduceEqDiff, Nat.reduceAdd, Nat.reduceMul, Nat.reduceSub, Nat.reduceLeDiff, ↓reduceIte, reduceCtorEq, Int.reduceAdd, Int.reduceSub, Int.reduceMul, Int.reduceNeg, Int.reduceToNat, List.reduceReplicate]
  exact DFin.refl ⟨rfl, rfl⟩
end Go.Dl

-- The law EntryBack: what the call computes.
namespace Go.Dl
open Go Go.Proofs
set_option maxRecDepth 10000

theorem equal_spec (G : Nat → DVal) (a b : List Int) (H : DHeap) (ha : a.length ≤ 1099511627776) (hb : b.length ≤ 1099511627776) : DCalls Try.prog G 32 [dIs a, dIs b] H (DRet (.bool (decide (a = b))) H) := by
  refine dcalls_intro Try.func32 Try.call32 rfl (by kernel_rfl) ?_
  by_cases hl : a.length = b.length
  · simp (disch := omega) only [go_sem, Nat.reduceEqDiff, Nat.reduceAdd, Nat.reduceMul, Nat.reduceSub, Nat.reduceLeDiff, ↓reduceIte, reduceCtorEq, Int.reduceAdd, Int.reduceSub, Int.reduceMul, Int.reduceNeg, Int.reduceToNat, List.reduceReplicate, hl]
    obtain ⟨I, hI⟩ : ∃ I : Nat → (Nat → DVal) → DHeap → Prop, ∀ i env heap, I i env heap ↔ (H = heap ∧ env 0 = dIs a ∧ env 1 = dIs b ∧ env 12 = dI b.length ∧ env 13 = dI i ∧ i ≤ a.length ∧ a.take i = b.take i) := ⟨_, fun _ _ _ => Iff.rfl⟩
    refine DLoop.run I (fun i => a.length - i) 0 ((hI _ _ _).2 ?_) ?_
    · simp (disch := omega) only [go_sem, Nat.reduceEqDiff, Nat.reduceAdd, Nat.reduceMul, Nat.reduceSub, Nat.reduceLeDiff, ↓reduceIte, reduceCtorEq, Int.reduceAdd, Int.reduceSub, Int.reduceMul, Int.reduceNeg, Int.reduceToNat, List.reduceReplicate]
      simp [dIs, hl]
    · intro i env heap hi
      obtain ⟨rfl, h0, h1, h12, h13, hi, ht⟩ := (hI _ _ _).1 hi
      by_cases hlt : i < a.length
      · have hlt' : i < b.length := by omega
        by_cases hx : a[i] = b[i]
        · simp (disch := omega) only [go_sem, Nat.reduceEqDiff, Nat.reduceAdd, Nat.reduceMul, Nat.reduceSub, Nat.reduceLeDiff, ↓reduceIte, reduceCtorEq, Int.reduceAdd, Int.reduceSub, Int.reduceMul, Int.reduceNeg, Int.reduceToNat, List.reduceReplicate, h0, h1, h12, h13, hx]
          refine dwp_draws (by kernel_rfl) (.take 0 (.take 1 (.take 2 (.take 3 (.take 4 (.take 5 (.take 6 (.take 7 (.take 8 .done))))))))) (by kernel_rfl) ?_
          simp (disch := omega) only [go_sem, Nat.reduceEqDiff, Nat.reduceAdd, Nat.reduceMul, Nat.reduceSub, Nat.reduceLeDiff, ↓reduceIte, reduceCtorEq, Int.reduceAdd, Int.reduceSub, Int.reduceMul, Int.reduceNeg, Int.reduceToNat, List.reduceReplicate, h0, h1, h12, h13, hx]
          refine ⟨i + 1, _, GhostS.refl _, (hI _ _ _).2 ?_, by omega⟩
          simp (disch := omega) only [go_sem, Nat.reduceEqDiff, Nat.reduceAdd, Nat.reduceMul, Nat.reduceSub, Nat.reduceLeDiff, ↓reduceIte, reduceCtorEq, Int.reduceAdd, Int.reduceSub, Int.reduceMul, Int.reduceNeg, Int.reduceToNat, List.reduceReplicate, h0, h1, h12, h13]
          (repeat' apply And.intro) <;> (try first | rfl | assumption | omega)
          exact take_eq_step hlt hlt' ht hx
        · simp (disch := omega) only [go_sem, Nat.reduceEqDiff, Nat.reduceAdd, Nat.reduceMul, Nat.reduceSub, Nat.reduceLeDiff, ↓reduceIte, reduceCtorEq, Int.reduceAdd, Int.reduceSub, Int.reduceMul, Int.reduceNeg, Int.reduceToNat, List.reduceReplicate, h0, h1, h12, h13, hx]
          refine dwp_draws (by kernel_rfl) (.take 0 (.take 1 (.take 2 (.take 3 (.take 4 (.take 5 (.take 6 (.take 7 (.take 8 .done))))))))) (by kernel_rfl) ?_
          simp (disch := omega) only [go_sem, Nat.reduceEqDiff, Nat.reduceAdd, Nat.reduceMul, Nat.reduceSub, Nat.reduceLeDiff, ↓reduceIte, reduceCtorEq, Int.reduceAdd, Int.reduceSub, Int.reduceMul, Int.reduceNeg, Int.reduceToNat, List.reduceReplicate, h0, h1, h12, h13, hx]
          refine DFin.refl ⟨?_, rfl⟩
          rw [decide_eq_false (fun e => hx (by subst e; rfl))]
      · simp (disch := omega) only [go_sem, Nat.reduceEqDiff, Nat.reduceAdd, Nat.reduceMul, Nat.reduceSub, Nat.reduceLeDiff, ↓reduceIte, reduceCtorEq, Int.reduceAdd, Int.reduceSub, Int.reduceMul, Int.reduceNeg, Int.reduceToNat, List.reduceReplicate, h0, h1, h12, h13]
        refine DFin.refl ⟨?_, rfl⟩
        have : a = b := by
          rw [List.take_of_length_le (by omega), List.take_of_length_le (by omega)] at ht; exact ht
        rw [decide_eq_true this]
  · simp (disch := omega) only [go_sem, Nat.reduceEqDiff, Nat.reduceAdd, Nat.reduceMul, Nat.reduceSub, Nat.reduceLeDiff, ↓reduceIte, reduceCtorEq, Int.reduceAdd, Int.reduceSub, Int.reduceMul, Int.reduceNeg, Int.reduceToNat, List.reduceReplicate, hl]
    refine DFin.refl ⟨?_, rfl⟩
    rw [decide_eq_false (fun e => hl (by rw [e]))]

theorem entryBack_spec (G : Nat → DVal) (q : List (List Int)) (e t : Int) (H : DHeap) (hq : q.length ≤ 1099511627776) (hb : q.flatten.length ≤ 1099511627776) (hl : ∀ l ∈ q, l.length ≤ 100000000) :
    DCalls Try.prog G 5 [dIss q, dI e, dI t] H (DRet (.bool true) H) := by
  have hl9 : ∀ l ∈ q, l.length ≤ 1000000000 := fun l h => Nat.le_trans (hl l h) (by omega)
  have hl' : ∀ l ∈ q, l.length ≤ 1099511627776 := fun l h => Nat.le_trans (hl l h) (by omega)
  refine dcalls_intro Try.func5 Try.call5 rfl (by kernel_rfl) ?_
  simp (disch := omega) only [go_sem, Nat.reduceEqDiff, Nat.reduceAdd, Nat.reduceMul, Nat.reduceSub, Nat.reduceLeDiff, ↓reduceIte, reduceCtorEq, Int.reduceAdd, Int.reduceSub, Int.reduceMul, Int.reduceNeg, Int.reduceToNat, List.reduceReplicate]
  refine (put_spec G q e t _ hq hl9).mono ?_
  rintro _ H ⟨rfl, rfl⟩
  simp (disch := omega) only [go_sem, Nat.reduceEqDiff, Nat.reduceAdd, Nat.reduceMul, Nat.reduceSub, Nat.reduceLeDiff, ↓reduceIte, reduceCtorEq, Int.reduceAdd, Int.reduceSub, Int.reduceMul, Int.reduceNeg, Int.reduceToNat, List.reduceReplicate]
  refine (rput_spec G q e t _ hq hb hl9).mono ?_
  rintro _ H ⟨rfl, rfl⟩
  by_cases h0 : (putL q e t).2 = 0
  · obtain ⟨n, hn, rfl, hm, ht, hnt, hp⟩ := put_ok h0
    have hln := hl _ (List.getElem_mem hn)
    generalize ha : q.set n (q[n] ++ [t]) = a at hp
    have hal : a.length = q.length := by rw [← ha]; simp
    have hae : ∀ l ∈ a, l.length ≤ 1000000000 := fun l hl2 => by
      rw [← ha] at hl2
      rcases List.mem_or_eq_of_mem_set hl2 with h | h
      · exact hl9 l h
      · subst h; simp; omega
    have hae' : ∀ l ∈ a, l.length ≤ 1099511627776 := fun l h => Nat.le_trans (hae l h) (by omega)
    have hr : removeL a t = (q, 0) := by rw [← ha]; exact remove_put hm hn ht hnt
    have hf : findD a t = .tuple [dI n, dI q[n].length, .bool true] := by rw [← ha]; exact find_put hm hn ht hnt
    have htk := take_put hm hn ht hnt
    rw [ha] at htk
    simp (disch := omega) only [go_sem, Nat.reduceEqDiff, Nat.reduceAdd, Nat.reduceMul, Nat.reduceSub, Nat.reduceLeDiff, ↓reduceIte, reduceCtorEq, Int.reduceAdd, Int.reduceSub, Int.reduceMul, Int.reduceNeg, Int.reduceToNat, List.reduceReplicate, hp]
    refine (remove_spec G a t _ (by omega) hae).mono ?_
    rintro _ H ⟨rfl, rfl⟩
    simp (disch := omega) only [go_sem, Nat.reduceEqDiff, Nat.reduceAdd, Nat.reduceMul, Nat.reduceSub, Nat.reduceLeDiff, ↓reduceIte, reduceCtorEq, Int.reduceAdd, Int.reduceSub, Int.reduceMul, Int.reduceNeg, Int.reduceToNat, List.reduceReplicate, hr]
    refine (find_spec G a t _ (by omega) hae').mono ?_
    rintro _ H ⟨rfl, rfl⟩
    simp (disch := omega) only [go_sem, Nat.reduceEqDiff, Nat.reduceAdd, Nat.reduceMul, Nat.reduceSub, Nat.reduceLeDiff, ↓reduceIte, reduceCtorEq, Int.reduceAdd, Int.reduceSub, Int.reduceMul, Int.reduceNeg, Int.reduceToNat, List.reduceReplicate, hf]
    refine (take_spec G a n _ (by omega) hae).mono ?_
    rintro _ H ⟨rfl, rfl⟩
    simp (disch := omega) only [go_sem, Nat.reduceEqDiff, Nat.reduceAdd, Nat.reduceMul, Nat.reduceSub, Nat.reduceLeDiff, ↓reduceIte, reduceCtorEq, Int.reduceAdd, Int.reduceSub, Int.reduceMul, Int.reduceNeg, Int.reduceToNat, List.reduceReplicate]
    obtain ⟨I, hI⟩ : ∃ I : Nat → (Nat → DVal) → DHeap → Prop, ∀ i env heap, I i env heap ↔ (H = heap ∧ env 0 = dIss q ∧ env 1 = dI n ∧ env 2 = dI t ∧ env 7 = dIss a ∧ env 11 = dIss q ∧ env 12 = dI 0 ∧ env 13 = dI n ∧ env 14 = dI q[n].length ∧ env 15 = .bool true ∧ env 16 = dIss (takeL a n).1 ∧ env 17 = dI (takeL a n).2.1 ∧ env 18 = dI (takeL a n).2.2 ∧ env 19 = .bool (decide ((q[n].length : Int) = 0)) ∧ env 84 = dI q.length ∧ env 85 = dI i ∧ i ≤ q.length) := ⟨_, fun _ _ _ => Iff.rfl⟩
    refine DLoop.run I (fun i => q.length - i) 0 ((hI _ _ _).2 ?_) ?_
    · simp (disch := omega) only [go_sem, Nat.reduceEqDiff, Nat.reduceAdd, Nat.reduceMul, Nat.reduceSub, Nat.reduceLeDiff, ↓reduceIte, reduceCtorEq, Int.reduceAdd, Int.reduceSub, Int.reduceMul, Int.reduceNeg, Int.reduceToNat, List.reduceReplicate]
      simp [dIss]
    · intro i env heap hi
      obtain ⟨rfl, g0, g1, g2, g7, g11, g12, g13, g14, g15, g16, g17, g18, g19, g84, g85, hi⟩ := (hI _ _ _).1 hi
      by_cases hlt : i < q.length
      · by_cases hin : i = n
        · have hin' : (i : Int) = (n : Int) := by omega
          simp (disch := omega) only [go_sem, Nat.reduceEqDiff, Nat.reduceAdd, Nat.reduceMul, Nat.reduceSub, Nat.reduceLeDiff, ↓reduceIte, reduceCtorEq, Int.reduceAdd, Int.reduceSub, Int.reduceMul, Int.reduceNeg, Int.reduceToNat, List.reduceReplicate, g0, g1, g2, g7, g11, g12, g13, g14, g15, g16, g17, g18, g19, g84, g85, hin']
          refine dwp_draws (by kernel_rfl) (.take 0 (.take 1 (.take 2 (.take 3 (.take 4 (.take 5 (.take 6 (.take 7 (.take 8 (.take 9 (.take 10 (.take 11 (.go 12 [] (.take 13 (.take 14 .done))))))))))))))) (by kernel_rfl) ?_
          simp (disch := omega) only [go_sem, Nat.reduceEqDiff, Nat.reduceAdd, Nat.reduceMul, Nat.reduceSub, Nat.reduceLeDiff, ↓reduceIte, reduceCtorEq, Int.reduceAdd, Int.reduceSub, Int.reduceMul, Int.reduceNeg, Int.reduceToNat, List.reduceReplicate, g0, g1, g2, g7, g11, g12, g13, g14, g15, g16, g17, g18, g19, g84, g85, hin']
          refine ⟨i + 1, _, GhostS.refl _, (hI _ _ _).2 ?_, by omega⟩
          simp (disch := omega) only [go_sem, Nat.reduceEqDiff, Nat.reduceAdd, Nat.reduceMul, Nat.reduceSub, Nat.reduceLeDiff, ↓reduceIte, reduceCtorEq, Int.reduceAdd, Int.reduceSub, Int.reduceMul, Int.reduceNeg, Int.reduceToNat, List.reduceReplicate, g0, g1, g2, g7, g11, g12, g13, g14, g15, g16, g17, g18, g19, g84, g85]
          (repeat' apply And.intro) <;> (try first | rfl | assumption | omega)
          rw [← hin']; rfl
        · have hin' : ¬ (i : Int) = (n : Int) := by omega
          have hai : i < a.length := by omega
          have hge : a[i] = q[i] := by simp only [← ha]; rw [List.getElem_set_ne (by omega)]
          have hli := hl' _ (List.getElem_mem hlt)
          simp (disch := omega) only [go_sem, Nat.reduceEqDiff, Nat.reduceAdd, Nat.reduceMul, Nat.reduceSub, Nat.reduceLeDiff, ↓reduceIte, reduceCtorEq, Int.reduceAdd, Int.reduceSub, Int.reduceMul, Int.reduceNeg, Int.reduceToNat, List.reduceReplicate, g0, g1, g2, g7, g11, g12, g13, g14, g15, g16, g17, g18, g19, g84, g85, hin']
          refine dwp_draws (by kernel_rfl) (.take 0 (.take 1 (.take 2 (.take 3 (.take 4 (.take 5 (.take 6 (.take 7 (.take 8 (.take 9 (.take 10 (.take 11 (.go 12 [] (.take 13 (.take 14 .done))))))))))))))) (by kernel_rfl) ?_
          simp (disch := omega) only [go_sem, Nat.reduceEqDiff, Nat.reduceAdd, Nat.reduceMul, Nat.reduceSub, Nat.reduceLeDiff, ↓reduceIte, reduceCtorEq, Int.reduceAdd, Int.reduceSub, Int.reduceMul, Int.reduceNeg, Int.reduceToNat, List.reduceReplicate, g0, g1, g2, g7, g11, g12, g13, g14, g15, g16, g17, g18, g19, g84, g85, hin']
          refine (equal_spec G a[i] q[i] _ (by rw [hge]; exact hli) hli).mono ?_
          rintro _ H ⟨rfl, rfl⟩
          simp (disch := omega) only [go_sem, Nat.reduceEqDiff, Nat.reduceAdd, Nat.reduceMul, Nat.reduceSub, Nat.reduceLeDiff, ↓reduceIte, reduceCtorEq, Int.reduceAdd, Int.reduceSub, Int.reduceMul, Int.reduceNeg, Int.reduceToNat, List.reduceReplicate, g0, g1, g2, g7, g11, g12, g13, g14, g15, g16, g17, g18, g19, g84, g85, hin', hge]
          refine ⟨i + 1, _, GhostS.refl _, (hI _ _ _).2 ?_, by omega⟩
          simp (disch := omega) only [go_sem, Nat.reduceEqDiff, Nat.reduceAdd, Nat.reduceMul, Nat.reduceSub, Nat.reduceLeDiff, ↓reduceIte, reduceCtorEq, Int.reduceAdd, Int.reduceSub, Int.reduceMul, Int.reduceNeg, Int.reduceToNat, List.reduceReplicate, g0, g1, g2, g7, g11, g12, g13, g14, g15, g16, g17, g18, g19, g84, g85]
          (repeat' apply And.intro) <;> (try first | rfl | assumption | omega)
      · simp (disch := omega) only [go_sem, Nat.reduceEqDiff, Nat.reduceAdd, Nat.reduceMul, Nat.reduceSub, Nat.reduceLeDiff, ↓reduceIte, reduceCtorEq, Int.reduceAdd, Int.reduceSub, Int.reduceMul, Int.reduceNeg, Int.reduceToNat, List.reduceReplicate, g0, g1, g2, g7, g11, g12, g13, g14, g15, g16, g17, g18, g19, g84, g85]
        refine (same_spec G q q _ hq hq hl' hl').mono ?_
        rintro _ H ⟨rfl, rfl⟩
        cases hqn : q[n] with
        | nil =>
          rw [hqn] at htk
          simp only at htk
          simp (disch := omega) only [go_sem, Nat.reduceEqDiff, Nat.reduceAdd, Nat.reduceMul, Nat.reduceSub, Nat.reduceLeDiff, ↓reduceIte, reduceCtorEq, Int.reduceAdd, Int.reduceSub, Int.reduceMul, Int.reduceNeg, Int.reduceToNat, List.reduceReplicate, g0, g1, g2, g7, g11, g12, g13, g14, g15, g16, g17, g18, g19, g84, g85, htk, hqn]
          refine (same_spec G q q _ hq hq hl' hl').mono ?_
          rintro _ H ⟨rfl, rfl⟩
          simp (disch := omega) only [go_sem, Nat.reduceEqDiff, Nat.reduceAdd, Nat.reduceMul, Nat.reduceSub, Nat.reduceLeDiff, ↓reduceIte, reduceCtorEq, Int.reduceAdd, Int.reduceSub, Int.reduceMul, Int.reduceNeg, Int.reduceToNat, List.reduceReplicate, g0, g1, g2, g7, g11, g12, g13, g14, g15, g16, g17, g18, g19, g84, g85, htk, hqn]
          refine (awake31_spec G _).mono ?_
          rintro _ H ⟨rfl, rfl⟩
          simp (disch := omega) only [go_sem, Nat.reduceEqDiff, Nat.reduceAdd, Nat.reduceMul, Nat.reduceSub, Nat.reduceLeDiff, ↓reduceIte, reduceCtorEq, Int.reduceAdd, Int.reduceSub, Int.reduceMul, Int.reduceNeg, Int.reduceToNat, List.reduceReplicate]
          exact DFin.refl ⟨rfl, rfl⟩
        | cons u l =>
          rw [hqn] at htk
          simp only at htk
          simp (disch := omega) only [go_sem, Nat.reduceEqDiff, Nat.reduceAdd, Nat.reduceMul, Nat.reduceSub, Nat.reduceLeDiff, ↓reduceIte, reduceCtorEq, Int.reduceAdd, Int.reduceSub, Int.reduceMul, Int.reduceNeg, Int.reduceToNat, List.reduceReplicate, g0, g1, g2, g7, g11, g12, g13, g14, g15, g16, g17, g18, g19, g84, g85, htk, hqn, List.map_cons]
          refine (awake31_spec G _).mono ?_
          rintro _ H ⟨rfl, rfl⟩
          simp (disch := omega) only [go_sem, Nat.reduceEqDiff, Nat.reduceAdd, Nat.reduceMul, Nat.reduceSub, Nat.reduceLeDiff, ↓reduceIte, reduceCtorEq, Int.reduceAdd, Int.reduceSub, Int.reduceMul, Int.reduceNeg, Int.reduceToNat, List.reduceReplicate]
          exact DFin.refl ⟨rfl, rfl⟩
  · have hp := put_fail h0
    simp (disch := omega) only [go_sem, Nat.reduceEqDiff, Nat.reduceAdd, Nat.reduceMul, Nat.reduceSub, Nat.reduceLeDiff, ↓reduceIte, reduceCtorEq, Int.reduceAdd, Int.reduceSub, Int.reduceMul, Int.reduceNeg, Int.reduceToNat, List.reduceReplicate, h0, hp]
    refine (awake31_spec G _).mono ?_
    rintro _ H ⟨rfl, rfl⟩
    simp (disch := omega) only [go_sem, Nat.reduceEqDiff, Nat.reduceAdd, Nat.reduceMul, Nat.reduceSub, Nat.reduceLeDiff, ↓reduceIte, reduceCtorEq, Int.reduceAdd, Int.reduceSub, Int.reduceMul, Int.reduceNeg, Int.reduceToNat, List.reduceReplicate]
    exact DFin.refl ⟨rfl, rfl⟩
end Go.Dl

-- The law EntryMoves: what the call computes.
namespace Go.Dl
open Go Go.Proofs
set_option maxRecDepth 10000

/-- v is a list of ints of the call's own (none of it in H): its block is in Hx. -/
def VOk (e : TypeId) (H Hx : DHeap) (v : DVal) : Prop := v = .nilSlice ∨ ∃ r off len lo cs, H r = none ∧ Hx r = some (.cells cs e) ∧ v = .oslice 1 r off len lo ∧ off + len ≤ cs.length ∧ len ≤ 1099511627776
def LOk (e e' : TypeId) (H Hx : DHeap) (u : DVal) : Prop := u = .nilSlice ∨ ∃ ro vs, u = .oslice 1 ro 0 vs.length vs.length ∧ Hx ro = some (.cells vs e') ∧ (∀ v ∈ vs, VOk e H Hx v ∧ v.one = true ∧ v.cells = [v]) ∧ vs.length ≤ 1099511627776
theorem VOk.up {e : TypeId} {H Hx Hy : DHeap} {v : DVal} (h : VOk e H Hx v) (hs : ∀ r o, Hx r = some o → Hy r = some o) : VOk e H Hy v := by
  rcases h with h | ⟨r, off, len, lo, cs, h1, h2, h3, h4⟩
  · exact .inl h
  · exact .inr ⟨r, off, len, lo, cs, h1, hs _ _ h2, h3, h4⟩
theorem VOk.down {e : TypeId} {H H0 Hx : DHeap} {v : DVal} (h : VOk e H Hx v) (hs : ∀ r o, H0 r = some o → H r = some o) : VOk e H0 Hx v := by
  rcases h with h | ⟨r, off, len, lo, cs, h1, h2, h3, h4⟩
  · exact .inl h
  · exact .inr ⟨r, off, len, lo, cs, sub_none hs h1, h2, h3, h4⟩
theorem LOk.up {e e' : TypeId} {H Hx Hy : DHeap} {v : DVal} (h : LOk e e' H Hx v) (hs : ∀ r o, Hx r = some o → Hy r = some o) : LOk e e' H Hy v := by
  rcases h with h | ⟨r, vs, h1, h2, h3, h4⟩
  · exact .inl h
  · exact .inr ⟨r, vs, h1, hs _ _ h2, fun v hv => ⟨(h3 v hv).1.up hs, (h3 v hv).2⟩, h4⟩
theorem LOk.down {e e' : TypeId} {H H0 Hx : DHeap} {v : DVal} (h : LOk e e' H Hx v) (hs : ∀ r o, H0 r = some o → H r = some o) : LOk e e' H0 Hx v := by
  rcases h with h | ⟨r, vs, h1, h2, h3, h4⟩
  · exact .inl h
  · exact .inr ⟨r, vs, h1, h2, fun v hv => ⟨(h3 v hv).1.down hs, (h3 v hv).2⟩, h4⟩
theorem OwnRows.vok {e : TypeId} {H : DHeap} : ∀ {q : List (List Int)} {vs : List DVal} {H1 : DHeap}, OwnRows e H q vs H1 → (∀ l ∈ q, l.length ≤ 1099511627776) → ∀ v ∈ vs, VOk e H H1 v ∧ v.one = true ∧ v.cells = [v]
  | [], _, _, h, _, v, hv => by rw [h.1] at hv; cases hv
  | l :: q, vs, H1, h, hb, v, hv => by
    obtain ⟨u, vs', H2, rfl, h1, h2⟩ := h
    rcases List.mem_cons.1 hv with rfl | hv
    · rcases h2 with ⟨_, rfl, _⟩ | ⟨r, pre, lo, rest, hr, rfl, hlo, rfl⟩
      · exact ⟨.inl rfl, rfl, rfl⟩
      · exact ⟨.inr ⟨r, _, _, _, _, sub_none h1.sub hr, upd_same _ _ _, rfl, by simp, hb _ (by simp)⟩, rfl, rfl⟩
    · have := h1.vok (fun l hl => hb l (by simp [hl])) v hv
      exact ⟨this.1.up h2.sub, this.2⟩
theorem OwnLL.lok {e e' : TypeId} {H H1 : DHeap} {q : List (List Int)} {v : DVal} (h : OwnLL e e' H q v H1) (hq : q.length ≤ 1099511627776) (hb : ∀ l ∈ q, l.length ≤ 1099511627776) : LOk e e' H H1 v := by
  rcases h with ⟨rfl, rfl, rfl⟩ | ⟨ro, vs, H2, h1, h2, rfl, rfl⟩
  · exact .inl rfl
  · refine .inr ⟨ro, vs, by rw [h1.len], upd_same _ _ _, fun v hv => ⟨(h1.vok hb v hv).1.up fun r o hr => ?_, (h1.vok hb v hv).2⟩, by rw [h1.len]; exact hq⟩
    have hne : r ≠ ro := none_ne h2 hr
    simp [upd, hne, hr]
theorem OwnLL.cell1 {e e' : TypeId} {H H1 : DHeap} {q : List (List Int)} {v : DVal} (h : OwnLL e e' H q v H1) : v.cells = [v] ∧ v.one = true := by
  rcases h with ⟨rfl, rfl, rfl⟩ | ⟨ro, vs, H2, h1, h2, rfl, rfl⟩ <;> exact ⟨rfl, rfl⟩

/-- heap is Hx, but for the cells of some int blocks that are not in H. -/
def Scr (e : TypeId) (H Hx heap : DHeap) : Prop := ∀ r, heap r = Hx r ∨ (H r = none ∧ ∃ cs cs', Hx r = some (.cells cs e) ∧ heap r = some (.cells cs' e) ∧ cs'.length = cs.length)
theorem Scr.refl (e : TypeId) (H Hx : DHeap) : Scr e H Hx Hx := fun _ => .inl rfl
theorem Scr.other {e e' : TypeId} {H Hx heap : DHeap} (h : Scr e H Hx heap) (hne : e' ≠ e) {r : Nat} {vs : List DVal} (hr : Hx r = some (.cells vs e')) : heap r = some (.cells vs e') := by
  rcases h r with h | ⟨_, cs, cs', h1, _⟩
  · rw [h, hr]
  · rw [hr] at h1; cases h1; exact absurd rfl hne
theorem Scr.row {e : TypeId} {H Hx heap : DHeap} (h : Scr e H Hx heap) {r : Nat} {cs : List DVal} (hr : Hx r = some (.cells cs e)) : ∃ cs', heap r = some (.cells cs' e) ∧ cs'.length = cs.length := by
  rcases h r with h | ⟨_, cs1, cs', h1, h2, h3⟩
  · exact ⟨cs, by rw [h, hr], rfl⟩
  · rw [hr] at h1; cases h1; exact ⟨cs', h2, h3⟩
theorem Scr.set {e : TypeId} {H Hx heap : DHeap} (h : Scr e H Hx heap) {r : Nat} {cs cs' : List DVal} (hn : H r = none) (hr : Hx r = some (.cells cs e)) (hl : cs'.length = cs.length) : Scr e H Hx (upd heap r (some (.cells cs' e))) := fun b => by
  by_cases eb : b = r
  · subst eb; exact .inr ⟨hn, cs, cs', hr, by simp [upd], hl⟩
  · simp only [upd, if_neg eb]; exact h b
theorem Scr.sub {e : TypeId} {H Hx heap : DHeap} (h : Scr e H Hx heap) (hs : ∀ r o, H r = some o → Hx r = some o) : ∀ r o, H r = some o → heap r = some o := fun r o hr => by
  rcases h r with h | ⟨hn, _⟩
  · rw [h]; exact hs r o hr
  · rw [hn] at hr; cases hr

theorem getD_len {q : List (List Int)} {n B : Nat} (hl : ∀ l ∈ q, l.length ≤ B) : (q.getD n []).length ≤ B := by
  by_cases h : n < q.length
  · rw [List.getD_eq_getElem?_getD, List.getElem?_eq_getElem h]
    exact hl _ (List.getElem_mem h)
  · rw [List.getD_eq_getElem?_getD, List.getElem?_eq_none (by omega)]
    simp
theorem set_bound {q : List (List Int)} {n B : Nat} {m : List Int} (hl : ∀ l ∈ q, l.length ≤ B) (hm : m.length ≤ B) : ∀ l ∈ q.set n m, l.length ≤ B := fun l h => by
  rcases List.mem_or_eq_of_mem_set h with h | rfl
  · exact hl l h
  · exact hm
theorem putL_bound {q : List (List Int)} {e t : Int} {B : Nat} (hl : ∀ l ∈ q, l.length ≤ B) : (∀ l ∈ (putL q e t).1, l.length ≤ B + 1) ∧ (putL q e t).1.length ≤ q.length := by
  unfold putL
  have := getD_len (n := e.toNat) hl
  split
  · simp
  · split
    · simp
    · exact ⟨set_bound (fun l h => Nat.le_succ_of_le (hl l h)) (by simpa using this), by simp⟩
theorem takeL_bound {q : List (List Int)} {e : Int} {B : Nat} (hl : ∀ l ∈ q, l.length ≤ B) : (∀ l ∈ (takeL q e).1, l.length ≤ B) ∧ (takeL q e).1.length ≤ q.length := by
  unfold takeL
  have := getD_len (n := e.toNat) hl
  split
  · simp
  · split
    · simp
    · rename_i u l hg
      rw [hg] at this
      exact ⟨set_bound hl (by simp at this; omega), by simp⟩
theorem removeL_bound {q : List (List Int)} {t : Int} {B : Nat} (hl : ∀ l ∈ q, l.length ≤ B) : (∀ l ∈ (removeL q t).1, l.length ≤ B) ∧ (removeL q t).1.length ≤ q.length := by
  unfold removeL
  split
  · simp
  · split
    · simp
    · split
      · simp
      · rename_i p hp
        refine ⟨set_bound hl ?_, by simp⟩
        exact Nat.le_trans (List.length_eraseIdx_le _ _) (getD_len hl)

theorem setI_neg (q : List (List Int)) (l : List Int) : setI q (-1) l = q := by
  simp [setI]

theorem copied_spec (G : Nat → DVal) (q : List (List Int)) (H : DHeap) (hq : q.length ≤ 1099511627776) (hl : ∀ l ∈ q, l.length ≤ 1099511627776) : DCalls Try.prog G 10 [dIss q] H (DRet (dIss q) H) := by
  refine dcalls_intro Try.func10 Try.call10 rfl (by kernel_rfl) ?_
  simp (disch := omega) only [go_sem, Nat.reduceEqDiff, Nat.reduceAdd, Nat.reduceMul, Nat.reduceSub, Nat.reduceLeDiff, ↓reduceIte, reduceCtorEq, Int.reduceAdd, Int.reduceSub, Int.reduceMul, Int.reduceNeg, Int.reduceToNat, List.reduceReplicate]
  have h := (copy_spec G q (-1) [] H hq hl).leArgs (.cons (.refl _) (.cons (.refl _) (.cons .nil .nil)) : DLes [dIss q, dI (-1), .nilSlice] [dIss q, dI (-1), dIs []])
  rw [setI_neg] at h
  refine h.mono ?_
  rintro _ H ⟨rfl, rfl⟩
  simp (disch := omega) only [go_sem, Nat.reduceEqDiff, Nat.reduceAdd, Nat.reduceMul, Nat.reduceSub, Nat.reduceLeDiff, ↓reduceIte, reduceCtorEq, Int.reduceAdd, Int.reduceSub, Int.reduceMul, Int.reduceNeg, Int.reduceToNat, List.reduceReplicate]
  exact DFin.refl ⟨rfl, rfl⟩

theorem entryMoves_spec (G : Nat → DVal) (hG : ∀ g, ∃ r o, G g = .optr r o) (q : List (List Int)) (e t : Int) (H : DHeap) (hq : q.length ≤ 1099511627776) (hb : q.flatten.length ≤ 1099511627776) (hl : ∀ l ∈ q, l.length ≤ 100000000) :
    DCalls Try.prog G 3 [dIss q, dI e, dI t] H (DRet (.bool true) H) := by
  have hl9 : ∀ l ∈ q, l.length ≤ 1000000000 := fun l h => Nat.le_trans (hl l h) (by omega)
  have hl' : ∀ l ∈ q, l.length ≤ 1099511627776 := fun l h => Nat.le_trans (hl l h) (by omega)
  refine dcalls_intro Try.func3 Try.call3 rfl (by kernel_rfl) ?_
  simp (disch := omega) only [go_sem, Nat.reduceEqDiff, Nat.reduceAdd, Nat.reduceMul, Nat.reduceSub, Nat.reduceLeDiff, ↓reduceIte, reduceCtorEq, Int.reduceAdd, Int.reduceSub, Int.reduceMul, Int.reduceNeg, Int.reduceToNat, List.reduceReplicate]
  refine (copied_spec G q _ hq hl').mono ?_
  rintro _ H ⟨rfl, rfl⟩
  simp (disch := omega) only [go_sem, Nat.reduceEqDiff, Nat.reduceAdd, Nat.reduceMul, Nat.reduceSub, Nat.reduceLeDiff, ↓reduceIte, reduceCtorEq, Int.reduceAdd, Int.reduceSub, Int.reduceMul, Int.reduceNeg, Int.reduceToNat, List.reduceReplicate]
  refine (put_own G q e t H hq hl9).mono ?_
  rintro _ H1 ⟨u1, rfl, hu1, _⟩
  simp (disch := omega) only [go_sem, Nat.reduceEqDiff, Nat.reduceAdd, Nat.reduceMul, Nat.reduceSub, Nat.reduceLeDiff, ↓reduceIte, reduceCtorEq, Int.reduceAdd, Int.reduceSub, Int.reduceMul, Int.reduceNeg, Int.reduceToNat, List.reduceReplicate]
  refine (rput_spec G q e t _ hq hb hl9).mono ?_
  rintro _ H1 ⟨rfl, rfl⟩
  simp (disch := omega) only [go_sem, Nat.reduceEqDiff, Nat.reduceAdd, Nat.reduceMul, Nat.reduceSub, Nat.reduceLeDiff, ↓reduceIte, reduceCtorEq, Int.reduceAdd, Int.reduceSub, Int.reduceMul, Int.reduceNeg, Int.reduceToNat, List.reduceReplicate]
  refine (take_own G q e H1 hq hl9).mono ?_
  rintro _ H2 ⟨u2, rfl, hu2, _⟩
  simp (disch := omega) only [go_sem, Nat.reduceEqDiff, Nat.reduceAdd, Nat.reduceMul, Nat.reduceSub, Nat.reduceLeDiff, ↓reduceIte, reduceCtorEq, Int.reduceAdd, Int.reduceSub, Int.reduceMul, Int.reduceNeg, Int.reduceToNat, List.reduceReplicate]
  refine (rtake_spec G q e _ hq hb hl9).mono ?_
  rintro _ H2 ⟨rfl, rfl⟩
  simp (disch := omega) only [go_sem, Nat.reduceEqDiff, Nat.reduceAdd, Nat.reduceMul, Nat.reduceSub, Nat.reduceLeDiff, ↓reduceIte, reduceCtorEq, Int.reduceAdd, Int.reduceSub, Int.reduceMul, Int.reduceNeg, Int.reduceToNat, List.reduceReplicate]
  refine (remove_own G q t H2 hq hl9).mono ?_
  rintro _ H3 ⟨u3, rfl, hu3, _⟩
  simp (disch := omega) only [go_sem, Nat.reduceEqDiff, Nat.reduceAdd, Nat.reduceMul, Nat.reduceSub, Nat.reduceLeDiff, ↓reduceIte, reduceCtorEq, Int.reduceAdd, Int.reduceSub, Int.reduceMul, Int.reduceNeg, Int.reduceToNat, List.reduceReplicate]
  refine (rremove_spec G q t _ hq hb hl9).mono ?_
  rintro _ H3 ⟨rfl, rfl⟩
  have p1 : ∀ l ∈ (putL q e t).1, l.length ≤ 1099511627776 := fun l h => Nat.le_trans ((putL_bound (e := e) (t := t) hl9).1 l h) (by omega)
  have p1n : (putL q e t).1.length ≤ 1099511627776 := Nat.le_trans (putL_bound (e := e) (t := t) hl9).2 hq
  have p2 : ∀ l ∈ (takeL q e).1, l.length ≤ 1099511627776 := fun l h => Nat.le_trans ((takeL_bound (e := e) hl').1 l h) (by omega)
  have p2n : (takeL q e).1.length ≤ 1099511627776 := Nat.le_trans (takeL_bound (e := e) hl').2 hq
  have p3 : ∀ l ∈ (removeL q t).1, l.length ≤ 1099511627776 := fun l h => Nat.le_trans ((removeL_bound (t := t) hl').1 l h) (by omega)
  have p3n : (removeL q t).1.length ≤ 1099511627776 := Nat.le_trans (removeL_bound (t := t) hl').2 hq
  simp (disch := omega) only [go_sem, Nat.reduceEqDiff, Nat.reduceAdd, Nat.reduceMul, Nat.reduceSub, Nat.reduceLeDiff, ↓reduceIte, reduceCtorEq, Int.reduceAdd, Int.reduceSub, Int.reduceMul, Int.reduceNeg, Int.reduceToNat, List.reduceReplicate]
  refine (same_own G hG u1 (dIss (putL q e t).1) _ _ H3 ((hu1.views.up hu2.sub).up hu3.sub) (.frozen _ _) p1n p1n p1 p1).mono ?_
  rintro _ H3 ⟨rfl, rfl⟩
  simp (disch := omega) only [go_sem, Nat.reduceEqDiff, Nat.reduceAdd, Nat.reduceMul, Nat.reduceSub, Nat.reduceLeDiff, ↓reduceIte, reduceCtorEq, Int.reduceAdd, Int.reduceSub, Int.reduceMul, Int.reduceNeg, Int.reduceToNat, List.reduceReplicate]
  refine (same_own G hG u2 (dIss (takeL q e).1) _ _ H3 (hu2.views.up hu3.sub) (.frozen _ _) p2n p2n p2 p2).mono ?_
  rintro _ H3 ⟨rfl, rfl⟩
  simp (disch := omega) only [go_sem, Nat.reduceEqDiff, Nat.reduceAdd, Nat.reduceMul, Nat.reduceSub, Nat.reduceLeDiff, ↓reduceIte, reduceCtorEq, Int.reduceAdd, Int.reduceSub, Int.reduceMul, Int.reduceNeg, Int.reduceToNat, List.reduceReplicate]
  refine (same_own G hG u3 (dIss (removeL q t).1) _ _ H3 hu3.views (.frozen _ _) p3n p3n p3 p3).mono ?_
  rintro _ H3 ⟨rfl, rfl⟩
  simp (disch := omega) only [go_sem, Nat.reduceEqDiff, Nat.reduceAdd, Nat.reduceMul, Nat.reduceSub, Nat.reduceLeDiff, ↓reduceIte, reduceCtorEq, Int.reduceAdd, Int.reduceSub, Int.reduceMul, Int.reduceNeg, Int.reduceToNat, List.reduceReplicate, hu1.cell1.1, hu1.cell1.2, hu2.cell1.1, hu2.cell1.2, hu3.cell1.1, hu3.cell1.2]
  intro rb hb; dsimp only at hb
  simp (disch := omega) only [go_sem, Nat.reduceEqDiff, Nat.reduceAdd, Nat.reduceMul, Nat.reduceSub, Nat.reduceLeDiff, ↓reduceIte, reduceCtorEq, Int.reduceAdd, Int.reduceSub, Int.reduceMul, Int.reduceNeg, Int.reduceToNat, List.reduceReplicate]
  generalize hHx : upd H3 rb (some (.cells [u1, u2, u3] 22)) = Hx
  have hup3 : ∀ r o, H3 r = some o → Hx r = some o := fun r o hr => by
    have hne : r ≠ rb := none_ne hb hr
    rw [← hHx]; simp [upd, hne, hr]
  have hsub : ∀ r o, H r = some o → Hx r = some o := fun r o hr => hup3 r o (hu3.sub r o (hu2.sub r o (hu1.sub r o hr)))
  have hxb : Hx rb = some (.cells [u1, u2, u3] 22) := by rw [← hHx]; simp [upd]
  have hok : ∀ k : Nat, k < 3 → ∃ v, ([u1, u2, u3] : List DVal)[k]? = some v ∧ LOk 3 37 H Hx v ∧ v.one = true ∧ v.cells = [v] := by
    intro k hk
    rcases (by omega : k = 0 ∨ k = 1 ∨ k = 2) with rfl | rfl | rfl
    · exact ⟨u1, rfl, (((hu1.lok p1n p1).up hu2.sub).up hu3.sub).up hup3, hu1.cell1.2, hu1.cell1.1⟩
    · exact ⟨u2, rfl, (((hu2.lok p2n p2).down hu1.sub).up hu3.sub).up hup3, hu2.cell1.2, hu2.cell1.1⟩
    · exact ⟨u3, rfl, (((hu3.lok p3n p3).down hu2.sub).down hu1.sub).up hup3, hu3.cell1.2, hu3.cell1.1⟩
  clear hu1 hu2 hu3 p1 p1n p2 p2n p3 p3n
  obtain ⟨I, hI⟩ : ∃ I : Nat → (Nat → DVal) → DHeap → Prop, ∀ k env heap, I k env heap ↔ (env 0 = dIss q ∧ env 7 = dIss q ∧ env 22 = .bool true ∧ env 106 = .oslice 1 rb 0 3 3 ∧ env 107 = dI 3 ∧ env 108 = dI k ∧ k ≤ 3 ∧ Scr 3 H Hx heap) := ⟨_, fun _ _ _ => Iff.rfl⟩
  refine DLoop.run I (fun k => 3 - k) 0 ((hI _ _ _).2 ?_) ?_
  · simp (disch := omega) only [go_sem, Nat.reduceEqDiff, Nat.reduceAdd, Nat.reduceMul, Nat.reduceSub, Nat.reduceLeDiff, ↓reduceIte, reduceCtorEq, Int.reduceAdd, Int.reduceSub, Int.reduceMul, Int.reduceNeg, Int.reduceToNat, List.reduceReplicate]
    (repeat' apply And.intro) <;> (try first | rfl | assumption | omega)
    exact Scr.refl _ _ _
  · intro k env heap hk
    obtain ⟨g0, g7, g22, g106, g107, g108, hk3, hscr⟩ := (hI _ _ _).1 hk
    by_cases hlt : k < 3
    · obtain ⟨v, hvk, hv, hv1, hvc⟩ := hok k hlt
      have hob := hscr.other (by decide) hxb
      rcases hv with rfl | ⟨ro, vs, rfl, hxo, hvs, hvl⟩
      · simp (disch := omega) only [go_sem, Nat.reduceEqDiff, Nat.reduceAdd, Nat.reduceMul, Nat.reduceSub, Nat.reduceLeDiff, ↓reduceIte, reduceCtorEq, Int.reduceAdd, Int.reduceSub, Int.reduceMul, Int.reduceNeg, Int.reduceToNat, List.reduceReplicate, g0, g7, g22, g106, g107, g108, hob, hvk]
        obtain ⟨J, hJ⟩ : ∃ J : Nat → (Nat → DVal) → DHeap → Prop, ∀ j env heap, J j env heap ↔ (env 0 = dIss q ∧ env 7 = dIss q ∧ env 22 = .bool true ∧ env 106 = .oslice 1 rb 0 3 3 ∧ env 107 = dI 3 ∧ env 108 = dI k ∧ env 112 = .nilSlice ∧ env 113 = dI 0 ∧ env 114 = dI 0 ∧ Scr 3 H Hx heap) := ⟨_, fun _ _ _ => Iff.rfl⟩
        refine DLoop.run J (fun _ => 0) 0 ((hJ _ _ _).2 ?_) ?_
        · simp (disch := omega) only [go_sem, Nat.reduceEqDiff, Nat.reduceAdd, Nat.reduceMul, Nat.reduceSub, Nat.reduceLeDiff, ↓reduceIte, reduceCtorEq, Int.reduceAdd, Int.reduceSub, Int.reduceMul, Int.reduceNeg, Int.reduceToNat, List.reduceReplicate, g0, g7, g22, g106, g107, g108]
          (repeat' apply And.intro) <;> (try first | rfl | assumption | omega)
        · intro j env heap hj
          obtain ⟨g0, g7, g22, g106, g107, g108, i112, i113, i114, hscr⟩ := (hJ _ _ _).1 hj
          simp (disch := omega) only [go_sem, Nat.reduceEqDiff, Nat.reduceAdd, Nat.reduceMul, Nat.reduceSub, Nat.reduceLeDiff, ↓reduceIte, reduceCtorEq, Int.reduceAdd, Int.reduceSub, Int.reduceMul, Int.reduceNeg, Int.reduceToNat, List.reduceReplicate, i112, i113, i114, g0, g7, g22, g106, g107, g108]
          refine ⟨k + 1, _, GhostS.refl _, (hI _ _ _).2 ?_, by omega⟩
          simp (disch := omega) only [go_sem, Nat.reduceEqDiff, Nat.reduceAdd, Nat.reduceMul, Nat.reduceSub, Nat.reduceLeDiff, ↓reduceIte, reduceCtorEq, Int.reduceAdd, Int.reduceSub, Int.reduceMul, Int.reduceNeg, Int.reduceToNat, List.reduceReplicate, i112, i113, i114, g0, g7, g22, g106, g107, g108]
          (repeat' apply And.intro) <;> (try first | rfl | assumption | omega)

      · simp (disch := omega) only [go_sem, Nat.reduceEqDiff, Nat.reduceAdd, Nat.reduceMul, Nat.reduceSub, Nat.reduceLeDiff, ↓reduceIte, reduceCtorEq, Int.reduceAdd, Int.reduceSub, Int.reduceMul, Int.reduceNeg, Int.reduceToNat, List.reduceReplicate, g0, g7, g22, g106, g107, g108, hob, hvk]
        obtain ⟨J, hJ⟩ : ∃ J : Nat → (Nat → DVal) → DHeap → Prop, ∀ j env heap, J j env heap ↔ (env 0 = dIss q ∧ env 7 = dIss q ∧ env 22 = .bool true ∧ env 106 = .oslice 1 rb 0 3 3 ∧ env 107 = dI 3 ∧ env 108 = dI k ∧ env 112 = .oslice 1 ro 0 vs.length vs.length ∧ env 113 = dI vs.length ∧ env 114 = dI j ∧ j ≤ vs.length ∧ Scr 3 H Hx heap) := ⟨_, fun _ _ _ => Iff.rfl⟩
        refine DLoop.run J (fun j => vs.length - j) 0 ((hJ _ _ _).2 ?_) ?_
        · simp (disch := omega) only [go_sem, Nat.reduceEqDiff, Nat.reduceAdd, Nat.reduceMul, Nat.reduceSub, Nat.reduceLeDiff, ↓reduceIte, reduceCtorEq, Int.reduceAdd, Int.reduceSub, Int.reduceMul, Int.reduceNeg, Int.reduceToNat, List.reduceReplicate, g0, g7, g22, g106, g107, g108]
          (repeat' apply And.intro) <;> (try first | rfl | assumption | omega)
        · intro j env heap hj
          obtain ⟨g0, g7, g22, g106, g107, g108, i112, i113, i114, hjl, hscr⟩ := (hJ _ _ _).1 hj
          by_cases hltj : j < vs.length
          · have hvj : vs[j]? = some vs[j] := List.getElem?_eq_getElem hltj
            have hoo := hscr.other (by decide) hxo
            obtain ⟨hvok, hone, hcell⟩ := hvs vs[j] (List.getElem_mem hltj)
            generalize vs[j] = v at hvj hvok hone hcell
            rcases hvok with rfl | ⟨r, off, len, lo, cs, hnr, hxr, rfl, hle, hll⟩
            · simp (disch := omega) only [go_sem, Nat.reduceEqDiff, Nat.reduceAdd, Nat.reduceMul, Nat.reduceSub, Nat.reduceLeDiff, ↓reduceIte, reduceCtorEq, Int.reduceAdd, Int.reduceSub, Int.reduceMul, Int.reduceNeg, Int.reduceToNat, List.reduceReplicate, i112, i113, i114, g0, g7, g22, g106, g107, g108, hoo, hvj]
              obtain ⟨K, hK⟩ : ∃ K : Nat → (Nat → DVal) → DHeap → Prop, ∀ m env heap, K m env heap ↔ (env 0 = dIss q ∧ env 7 = dIss q ∧ env 22 = .bool true ∧ env 106 = .oslice 1 rb 0 3 3 ∧ env 107 = dI 3 ∧ env 108 = dI k ∧ env 112 = .oslice 1 ro 0 vs.length vs.length ∧ env 113 = dI vs.length ∧ env 114 = dI j ∧ env 118 = .nilSlice ∧ env 119 = dI 0 ∧ env 120 = dI 0 ∧ Scr 3 H Hx heap) := ⟨_, fun _ _ _ => Iff.rfl⟩
              refine DLoop.run K (fun _ => 0) 0 ((hK _ _ _).2 ?_) ?_
              · simp (disch := omega) only [go_sem, Nat.reduceEqDiff, Nat.reduceAdd, Nat.reduceMul, Nat.reduceSub, Nat.reduceLeDiff, ↓reduceIte, reduceCtorEq, Int.reduceAdd, Int.reduceSub, Int.reduceMul, Int.reduceNeg, Int.reduceToNat, List.reduceReplicate, i112, i113, i114, g0, g7, g22, g106, g107, g108]
                (repeat' apply And.intro) <;> (try first | rfl | assumption | omega)
              · intro m env heap hm
                obtain ⟨g0, g7, g22, g106, g107, g108, i112, i113, i114, k118, k119, k120, hscr⟩ := (hK _ _ _).1 hm
                simp (disch := omega) only [go_sem, Nat.reduceEqDiff, Nat.reduceAdd, Nat.reduceMul, Nat.reduceSub, Nat.reduceLeDiff, ↓reduceIte, reduceCtorEq, Int.reduceAdd, Int.reduceSub, Int.reduceMul, Int.reduceNeg, Int.reduceToNat, List.reduceReplicate, k118, k119, k120, i112, i113, i114, g0, g7, g22, g106, g107, g108]
                refine ⟨j + 1, _, GhostS.refl _, (hJ _ _ _).2 ?_, by omega⟩
                simp (disch := omega) only [go_sem, Nat.reduceEqDiff, Nat.reduceAdd, Nat.reduceMul, Nat.reduceSub, Nat.reduceLeDiff, ↓reduceIte, reduceCtorEq, Int.reduceAdd, Int.reduceSub, Int.reduceMul, Int.reduceNeg, Int.reduceToNat, List.reduceReplicate, k118, k119, k120, i112, i113, i114, g0, g7, g22, g106, g107, g108]
                (repeat' apply And.intro) <;> (try first | rfl | assumption | omega)

            · simp (disch := omega) only [go_sem, Nat.reduceEqDiff, Nat.reduceAdd, Nat.reduceMul, Nat.reduceSub, Nat.reduceLeDiff, ↓reduceIte, reduceCtorEq, Int.reduceAdd, Int.reduceSub, Int.reduceMul, Int.reduceNeg, Int.reduceToNat, List.reduceReplicate, i112, i113, i114, g0, g7, g22, g106, g107, g108, hoo, hvj]
              obtain ⟨K, hK⟩ : ∃ K : Nat → (Nat → DVal) → DHeap → Prop, ∀ m env heap, K m env heap ↔ (env 0 = dIss q ∧ env 7 = dIss q ∧ env 22 = .bool true ∧ env 106 = .oslice 1 rb 0 3 3 ∧ env 107 = dI 3 ∧ env 108 = dI k ∧ env 112 = .oslice 1 ro 0 vs.length vs.length ∧ env 113 = dI vs.length ∧ env 114 = dI j ∧ env 26 = .oslice 1 r off len lo ∧ env 118 = .oslice 1 r off len lo ∧ env 119 = dI len ∧ env 120 = dI m ∧ m ≤ len ∧ Scr 3 H Hx heap) := ⟨_, fun _ _ _ => Iff.rfl⟩
              refine DLoop.run K (fun m => len - m) 0 ((hK _ _ _).2 ?_) ?_
              · simp (disch := omega) only [go_sem, Nat.reduceEqDiff, Nat.reduceAdd, Nat.reduceMul, Nat.reduceSub, Nat.reduceLeDiff, ↓reduceIte, reduceCtorEq, Int.reduceAdd, Int.reduceSub, Int.reduceMul, Int.reduceNeg, Int.reduceToNat, List.reduceReplicate, i112, i113, i114, g0, g7, g22, g106, g107, g108]
                (repeat' apply And.intro) <;> (try first | rfl | assumption | omega)
              · intro m env heap hm
                obtain ⟨g0, g7, g22, g106, g107, g108, i112, i113, i114, k26, k118, k119, k120, hml, hscr⟩ := (hK _ _ _).1 hm
                by_cases hltm : m < len
                · obtain ⟨cs', hcs, hcl⟩ := hscr.row hxr
                  have hix : off + m < cs'.length := by omega
                  simp (disch := omega) only [go_sem, Nat.reduceEqDiff, Nat.reduceAdd, Nat.reduceMul, Nat.reduceSub, Nat.reduceLeDiff, ↓reduceIte, reduceCtorEq, Int.reduceAdd, Int.reduceSub, Int.reduceMul, Int.reduceNeg, Int.reduceToNat, List.reduceReplicate, k26, k118, k119, k120, i112, i113, i114, g0, g7, g22, g106, g107, g108, hcs]
                  refine ⟨m + 1, _, GhostS.refl _, (hK _ _ _).2 ?_, by omega⟩
                  simp (disch := omega) only [go_sem, Nat.reduceEqDiff, Nat.reduceAdd, Nat.reduceMul, Nat.reduceSub, Nat.reduceLeDiff, ↓reduceIte, reduceCtorEq, Int.reduceAdd, Int.reduceSub, Int.reduceMul, Int.reduceNeg, Int.reduceToNat, List.reduceReplicate, k26, k118, k119, k120, i112, i113, i114, g0, g7, g22, g106, g107, g108]
                  (repeat' apply And.intro) <;> (try first | rfl | assumption | omega)
                  exact hscr.set hnr hxr (by rw [splice_setD _ _ _ hix, List.length_set, hcl])
                · simp (disch := omega) only [go_sem, Nat.reduceEqDiff, Nat.reduceAdd, Nat.reduceMul, Nat.reduceSub, Nat.reduceLeDiff, ↓reduceIte, reduceCtorEq, Int.reduceAdd, Int.reduceSub, Int.reduceMul, Int.reduceNeg, Int.reduceToNat, List.reduceReplicate, k26, k118, k119, k120, i112, i113, i114, g0, g7, g22, g106, g107, g108]
                  refine ⟨j + 1, _, GhostS.refl _, (hJ _ _ _).2 ?_, by omega⟩
                  simp (disch := omega) only [go_sem, Nat.reduceEqDiff, Nat.reduceAdd, Nat.reduceMul, Nat.reduceSub, Nat.reduceLeDiff, ↓reduceIte, reduceCtorEq, Int.reduceAdd, Int.reduceSub, Int.reduceMul, Int.reduceNeg, Int.reduceToNat, List.reduceReplicate, k26, k118, k119, k120, i112, i113, i114, g0, g7, g22, g106, g107, g108]
                  (repeat' apply And.intro) <;> (try first | rfl | assumption | omega)

          · simp (disch := omega) only [go_sem, Nat.reduceEqDiff, Nat.reduceAdd, Nat.reduceMul, Nat.reduceSub, Nat.reduceLeDiff, ↓reduceIte, reduceCtorEq, Int.reduceAdd, Int.reduceSub, Int.reduceMul, Int.reduceNeg, Int.reduceToNat, List.reduceReplicate, i112, i113, i114, g0, g7, g22, g106, g107, g108]
            refine ⟨k + 1, _, GhostS.refl _, (hI _ _ _).2 ?_, by omega⟩
            simp (disch := omega) only [go_sem, Nat.reduceEqDiff, Nat.reduceAdd, Nat.reduceMul, Nat.reduceSub, Nat.reduceLeDiff, ↓reduceIte, reduceCtorEq, Int.reduceAdd, Int.reduceSub, Int.reduceMul, Int.reduceNeg, Int.reduceToNat, List.reduceReplicate, i112, i113, i114, g0, g7, g22, g106, g107, g108]
            (repeat' apply And.intro) <;> (try first | rfl | assumption | omega)

    · simp (disch := omega) only [go_sem, Nat.reduceEqDiff, Nat.reduceAdd, Nat.reduceMul, Nat.reduceSub, Nat.reduceLeDiff, ↓reduceIte, reduceCtorEq, Int.reduceAdd, Int.reduceSub, Int.reduceMul, Int.reduceNeg, Int.reduceToNat, List.reduceReplicate, g0, g7, g22, g106, g107, g108]
      refine (same_spec G q q _ hq hq hl' hl').mono ?_
      rintro _ heap ⟨rfl, rfl⟩
      simp (disch := omega) only [go_sem, Nat.reduceEqDiff, Nat.reduceAdd, Nat.reduceMul, Nat.reduceSub, Nat.reduceLeDiff, ↓reduceIte, reduceCtorEq, Int.reduceAdd, Int.reduceSub, Int.reduceMul, Int.reduceNeg, Int.reduceToNat, List.reduceReplicate, g0, g7, g22, g106, g107, g108]
      refine (awake31_spec G _).mono ?_
      rintro _ heap ⟨rfl, rfl⟩
      simp (disch := omega) only [go_sem, Nat.reduceEqDiff, Nat.reduceAdd, Nat.reduceMul, Nat.reduceSub, Nat.reduceLeDiff, ↓reduceIte, reduceCtorEq, Int.reduceAdd, Int.reduceSub, Int.reduceMul, Int.reduceNeg, Int.reduceToNat, List.reduceReplicate, g0, g7, g22, g106, g107, g108]
      exact DFin.sub (hscr.sub hsub) (DFin.refl ⟨rfl, rfl⟩)
end Go.Dl

-- A callee's own result, though own memory was lent to it.
namespace Go.Dl
open Go Go.Proofs
set_option maxRecDepth 10000

theorem DCalls.borrowA {P : Program} {G : Nat → DVal} {f : FuncId} {args args' : List DVal} {H : DHeap} {e : TypeId} {n : Nat} {cs : List DVal} (h : DCalls P G f args' h0 fun x H' => ∃ v, x = .ret v ∧ OwnA h0 e 1 n cs v H')
    (hb : ∀ w vs, SimHeap w H → RelL w H args vs → RelL w h0 args' vs) (hG : ∀ g, ∃ r o, G g = .optr r o) (hp : plain.plains cs = true) : DCalls P G f args H (fun x H' => ∃ v, x = .ret v ∧ OwnA H e 1 n cs v H') := by
  refine ⟨h.1, fun vs w hv hH hg => ?_⟩
  have hg0 : GOk G w h0 := fun g => by
    obtain ⟨r, o, k⟩ := hG g
    have := hg g
    rw [k] at this ⊢
    simpa [Rel] using this
  refine (h.2 vs w (hb w vs hH hv) (fun r o hr => by cases hr) hg0).mono fun x w' ⟨e', H', ⟨v, hv1, hv2⟩, k1, k2, k3⟩ => ?_
  subst hv1
  rcases hv2 with ⟨rfl, rfl, rfl, rfl⟩ | ⟨r, hr, hl, rfl, rfl⟩
  · have hE : Ext H w H w' := ⟨k3.os, k3.tape, k3.output, k3.size, fun b hb _ => k3.block b hb rfl, fun b hb => .inl hb, k3.keep, k3.fz⟩
    refine ⟨.ret .nilSlice, H, ⟨.nilSlice, rfl, .inl ⟨rfl, rfl, rfl, rfl⟩⟩, ?_, ?_, hE⟩
    · cases k1 with
      | ret d x hx => exact .ret _ _ (plain_rel _ _ rfl hx)
    · intro r o ho
      rw [k3.block r (hH.lt (by simp [ho])) rfl]
      exact (hH r o ho).lasts hE.lasts
  · have hsz : w.heap.size ≤ r := by
      rcases k3.own r (by simp [upd]) with h | h
      · exact absurd rfl h
      · exact h
    have hrn : H r = none := by
      cases e1 : H r with
      | none => rfl
      | some o => have := hH.lt (r := r) (by simp [e1]); omega
    have hE : Ext H w (upd H r (some (.cells cs e))) w' := ⟨k3.os, k3.tape, k3.output, k3.size, fun b hb _ => k3.block b hb rfl, fun b hb => by
      by_cases e1 : b = r
      · subst e1; exact .inr hsz
      · simp only [upd, if_neg e1] at hb; exact .inl hb, k3.keep, k3.fz⟩
    refine ⟨.ret (.oslice 1 r 0 n n), _, ⟨_, rfl, .inr ⟨r, hrn, hl, rfl, rfl⟩⟩, ?_, ?_, hE⟩
    · cases k1 with
      | ret d x hx => exact .ret _ _ (by simpa [Rel] using hx)
    · intro b o ho
      by_cases e1 : b = r
      · subst e1
        simp only [upd, if_pos] at ho; cases ho
        obtain ⟨xs, c, fz', h1, h2, h3, h4⟩ := k2 b _ (upd_same _ _ _)
        exact ⟨xs, c, fz', h1, h2, plains_rel _ _ hp h3, h4⟩
      · simp only [upd, if_neg e1] at ho
        rw [k3.block b (hH.lt (by simp [ho])) rfl]
        exact (hH b o ho).lasts hE.lasts

/-- v, in H1, is seen as the ints l. -/
def ViewsR (H1 : DHeap) (v : DVal) (l : List Int) : Prop := ∀ w x, SimHeap w H1 → Rel w H1 v x → Rel w h0 (dIs l) x
theorem OwnV.viewsR {e : TypeId} {H H1 : DHeap} {l : List Int} {v : DVal} (h : OwnV e H l v H1) : ViewsR H1 v l := fun w x hw hx => Rel.lasts (lasts_h0 _ w) _ _ ((h.ghost w hw).2.2 x hx)
theorem ViewsR.up {H1 H2 : DHeap} {v : DVal} {l : List Int} (h : ViewsR H1 v l) (hs : ∀ r o, H1 r = some o → H2 r = some o) : ViewsR H2 v l := fun w x hw hx =>
  h w x (fun r o ho => (hw r o (hs r o ho)).lasts (lasts_sub hs w)) (Rel.lasts (lasts_sub hs w) _ _ hx)
theorem plains_ints (l : List Int) : plain.plains (l.map dI) = true := by
  induction l with
  | nil => rfl
  | cons x l ih => simp [plain.plains, ih, plain, dI]
theorem clone_lent (G : Nat → DVal) (hG : ∀ g, ∃ r o, G g = .optr r o) (l : List Int) (v : DVal) (H : DHeap) (hv : ViewsR H v l) (hl : l.length ≤ 1099511627776) :
    DCalls Try.prog G 34 [v] H fun x H' => ∃ u, x = .ret u ∧ OwnA H 3 1 l.length (l.map dI) u H' :=
  (clone_own G l h0 hl).borrowA (fun w vs hw hx => by
    simp only [RelL] at hx ⊢
    obtain ⟨y, ys, rfl, k1, k2⟩ := hx
    exact ⟨y, ys, rfl, hv w y hw k1, k2⟩) hG (plains_ints l)
end Go.Dl

-- slices.IndexFunc and DeleteFunc on a slice of the call's own, with the closure of EntryOrder.
namespace Go.Dl
open Go Go.Proofs
set_option maxRecDepth 10000

theorem isT_spec (G : Nat → DVal) (x t : Int) (rx : Nat) (H : DHeap) (hx : H rx = some (.cells [dI t] 3)) : DCalls Try.prog G 35 [dI x, .optr rx 0] H (DRet (.bool (decide (x = t))) H) := by
  refine dcalls_intro Try.func35 Try.call35 rfl (by kernel_rfl) ?_
  simp (disch := omega) only [go_sem, Nat.reduceEqDiff, Nat.reduceAdd, Nat.reduceMul, Nat.reduceSub, Nat.reduceLeDiff, ↓reduceIte, reduceCtorEq, Int.reduceAdd, Int.reduceSub, Int.reduceMul, Int.reduceNeg, Int.reduceToNat, List.reduceReplicate, hx]
  exact DFin.refl ⟨rfl, rfl⟩
theorem indexFunc_raw (G : Nat → DVal) (l : List Int) (k : Nat) (cap : List DVal) (p : Int → Bool) (H : DHeap) (hl : l.length ≤ 1099511627776) (r : Nat) (hr : H r = some (.cells (l.map dI) 3)) (hf : ∀ x ∈ l, DCalls Try.prog G k (dI x :: cap) H (DRet (.bool (p x)) H)) :
    DCalls Try.prog G 69 [.oslice 1 r 0 l.length l.length, .func (.func k) [] cap] H (DRet (dI (idxF l p)) H) := by
  refine dcalls_intro Try.func69 Try.call69 rfl (by kernel_rfl) ?_
  simp (disch := omega) only [go_sem, Nat.reduceEqDiff, Nat.reduceAdd, Nat.reduceMul, Nat.reduceSub, Nat.reduceLeDiff, ↓reduceIte, reduceCtorEq, Int.reduceAdd, Int.reduceSub, Int.reduceMul, Int.reduceNeg, Int.reduceToNat, List.reduceReplicate]
  refine DLoop.run (fun (i : Nat) env heap => heap = H ∧ env 0 = .oslice 1 r 0 l.length l.length ∧ env 1 = .func (.func k) [] cap ∧ env 7 = dI l.length ∧ env 8 = dI i ∧ i ≤ l.length ∧ ∀ x ∈ l.take i, p x = false) (fun i => l.length - i) 0 ?_ ?_
  · simp (disch := omega) only [go_sem, Nat.reduceEqDiff, Nat.reduceAdd, Nat.reduceMul, Nat.reduceSub, Nat.reduceLeDiff, ↓reduceIte, reduceCtorEq, Int.reduceAdd, Int.reduceSub, Int.reduceMul, Int.reduceNeg, Int.reduceToNat, List.reduceReplicate]
    simp
  · rintro i env heap ⟨rfl, h0, h1, h7, h8, hi, hn⟩
    by_cases hlt : i < l.length
    · simp (disch := omega) only [go_sem, Nat.reduceEqDiff, Nat.reduceAdd, Nat.reduceMul, Nat.reduceSub, Nat.reduceLeDiff, ↓reduceIte, reduceCtorEq, Int.reduceAdd, Int.reduceSub, Int.reduceMul, Int.reduceNeg, Int.reduceToNat, List.reduceReplicate, h0, h1, h7, h8, hr]
      refine (hf _ (List.getElem_mem hlt)).mono ?_
      rintro e H1 ⟨rfl, rfl⟩
      simp (disch := omega) only [go_sem, Nat.reduceEqDiff, Nat.reduceAdd, Nat.reduceMul, Nat.reduceSub, Nat.reduceLeDiff, ↓reduceIte, reduceCtorEq, Int.reduceAdd, Int.reduceSub, Int.reduceMul, Int.reduceNeg, Int.reduceToNat, List.reduceReplicate]
      cases hx : p l[i] with
      | true =>
        simp (disch := omega) only [go_sem, Nat.reduceEqDiff, Nat.reduceAdd, Nat.reduceMul, Nat.reduceSub, Nat.reduceLeDiff, ↓reduceIte, reduceCtorEq, Int.reduceAdd, Int.reduceSub, Int.reduceMul, Int.reduceNeg, Int.reduceToNat, List.reduceReplicate, h0, h1, h7, h8, hr]
        refine DFin.refl ⟨?_, rfl⟩
        have : l.findIdx? p = some i := by
          rw [List.findIdx?_eq_some_iff_getElem]
          refine ⟨hlt, hx, fun j hj => ?_⟩
          have := hn (l[j]) (List.mem_take_iff_getElem.2 ⟨j, by omega, rfl⟩)
          simp [this]
        rw [idxF, this]
      | false =>
        simp (disch := omega) only [go_sem, Nat.reduceEqDiff, Nat.reduceAdd, Nat.reduceMul, Nat.reduceSub, Nat.reduceLeDiff, ↓reduceIte, reduceCtorEq, Int.reduceAdd, Int.reduceSub, Int.reduceMul, Int.reduceNeg, Int.reduceToNat, List.reduceReplicate, h0, h1, h7, h8, hr]
        refine ⟨i + 1, _, GhostS.refl _, ?_, by omega⟩
        simp (disch := omega) only [go_sem, Nat.reduceEqDiff, Nat.reduceAdd, Nat.reduceMul, Nat.reduceSub, Nat.reduceLeDiff, ↓reduceIte, reduceCtorEq, Int.reduceAdd, Int.reduceSub, Int.reduceMul, Int.reduceNeg, Int.reduceToNat, List.reduceReplicate, h0, h1, h7, h8, hr]
        (repeat' apply And.intro) <;> (try first | rfl | assumption | omega)
        rw [List.take_add_one, List.getElem?_eq_getElem hlt]
        intro x hx'
        rcases List.mem_append.1 hx' with h | h
        · exact hn x h
        · simp at h; subst h; exact hx
    · simp (disch := omega) only [go_sem, Nat.reduceEqDiff, Nat.reduceAdd, Nat.reduceMul, Nat.reduceSub, Nat.reduceLeDiff, ↓reduceIte, reduceCtorEq, Int.reduceAdd, Int.reduceSub, Int.reduceMul, Int.reduceNeg, Int.reduceToNat, List.reduceReplicate, h0, h1, h7, h8, hr]
      refine DFin.refl ⟨?_, rfl⟩
      have hi : i = l.length := by omega
      subst hi
      rw [List.take_length] at hn
      have : l.findIdx? p = none := by
        rw [List.findIdx?_eq_none_iff]
        intro x hx; simpa using hn x hx
      rw [idxF, this]
end Go.Dl

-- slices.DeleteFunc on a slice of the call's own (first try; see NOTES).
namespace Go.Dl
open Go Go.Proofs
set_option maxRecDepth 10000

/-- One round: what is kept moves down. -/
theorem keep_step (kept mid : List Int) (x : Int) (rest : List Int) : ∃ mid', mid'.length = mid.length ∧
    splice ((kept ++ mid ++ x :: rest).map dI) kept.length [dI x] = ((kept ++ [x]) ++ mid' ++ rest).map dI := by
  have hs := splice_setD ((kept ++ mid ++ x :: rest).map dI) kept.length (dI x) (by simp; omega)
  rw [hs]
  cases mid with
  | nil => exact ⟨[], rfl, by simp⟩
  | cons m mid => exact ⟨mid ++ [x], by simp, by simp [List.set_append]⟩

/-- What was kept of the first j, something, and the rest. -/
def KeptAt (H : DHeap) (r : Nat) (l : List Int) (p : Int → Bool) (j : Nat) (heap : DHeap) : Prop :=
  ∃ mid : List Int, ((l.take j).filter fun x => !p x).length + mid.length = j ∧ heap = upd H r (some (.cells ((((l.take j).filter fun x => !p x) ++ mid ++ l.drop j).map dI) 3))

theorem deleteFunc_raw (G : Nat → DVal) (l : List Int) (k : Nat) (cap : List DVal) (p : Int → Bool) (r : Nat) (H : DHeap) (hr : H r = none) (hl : l.length ≤ 1099511627776)
    (hf : ∀ x ∈ l, ∀ cs, DCalls Try.prog G k (dI x :: cap) (upd H r (some (.cells cs 3))) (DRet (.bool (p x)) (upd H r (some (.cells cs 3))))) :
    DCalls Try.prog G 33 [.oslice 1 r 0 l.length l.length, .func (.func k) [] cap] (upd H r (some (.cells (l.map dI) 3))) fun x H' => ∃ v, x = .ret v ∧ OwnV 3 H (l.filter fun x => !p x) v H' := by
  refine dcalls_intro Try.func33 Try.call33 rfl (by kernel_rfl) ?_
  simp (disch := omega) only [go_sem, Nat.reduceEqDiff, Nat.reduceAdd, Nat.reduceMul, Nat.reduceSub, Nat.reduceLeDiff, ↓reduceIte, reduceCtorEq, Int.reduceAdd, Int.reduceSub, Int.reduceMul, Int.reduceNeg, Int.reduceToNat, List.reduceReplicate]
  refine (indexFunc_raw G l k cap p _ hl r (upd_same _ _ _) fun x hx => hf x hx _).mono ?_
  rintro _ H1 ⟨rfl, rfl⟩
  cases hfi : l.findIdx? p with
  | none =>
    have hk : idxF l p = -1 := by rw [idxF, hfi]
    rw [hk]
    simp (disch := omega) only [go_sem, Nat.reduceEqDiff, Nat.reduceAdd, Nat.reduceMul, Nat.reduceSub, Nat.reduceLeDiff, ↓reduceIte, reduceCtorEq, Int.reduceAdd, Int.reduceSub, Int.reduceMul, Int.reduceNeg, Int.reduceToNat, List.reduceReplicate]
    have hall : l.filter (fun x => !p x) = l := by
      rw [List.filter_eq_self]
      intro x hx
      have := List.findIdx?_eq_none_iff.1 hfi x hx
      simp [this]
    refine DFin.refl ⟨_, rfl, ?_⟩
    rw [hall]
    exact .inr ⟨r, [], l.length, [], hr, rfl, by simp, by simp⟩
  | some i =>
    have hk : idxF l p = (i : Int) := by rw [idxF, hfi]
    have hi : i < l.length := by
      have := List.findIdx?_eq_some_iff_getElem.1 hfi
      exact this.1
    rw [hk]
    have hne : ¬ ((i : Int) = -1) := by omega
    simp (disch := omega) only [go_sem, Nat.reduceEqDiff, Nat.reduceAdd, Nat.reduceMul, Nat.reduceSub, Nat.reduceLeDiff, ↓reduceIte, reduceCtorEq, Int.reduceAdd, Int.reduceSub, Int.reduceMul, Int.reduceNeg, Int.reduceToNat, List.reduceReplicate, hne]
    have htake : ((l.take (i + 1)).filter fun x => !p x) = l.take i := by
      obtain ⟨_, h1, h2⟩ := List.findIdx?_eq_some_iff_getElem.1 hfi
      rw [List.take_add_one, List.getElem?_eq_getElem hi, List.filter_append]
      simp only [Option.toList, List.filter_cons, h1, Bool.not_true, List.filter_nil, if_neg Bool.false_ne_true, List.append_nil]
      rw [List.filter_eq_self]
      intro x hx
      obtain ⟨j, hj, rfl⟩ := List.mem_take_iff_getElem.1 hx
      simpa using h2 j (by omega)
    obtain ⟨I, hI⟩ : ∃ I : Nat → (Nat → DVal) → DHeap → Prop, ∀ j env heap, I j env heap ↔ (j ≤ l.length ∧ env 0 = .oslice 1 r 0 l.length l.length ∧ env 1 = .func (.func k) [] cap ∧ env 5 = dI (l.take j |>.filter fun x => !p x).length ∧ env 6 = dI j ∧ KeptAt H r l p j heap) := ⟨_, fun _ _ _ => Iff.rfl⟩
    refine DLoop.run I (fun j => l.length - j) (i + 1) ((hI _ _ _).2 ?_) ?_
    · simp (disch := omega) only [go_sem, Nat.reduceEqDiff, Nat.reduceAdd, Nat.reduceMul, Nat.reduceSub, Nat.reduceLeDiff, ↓reduceIte, reduceCtorEq, Int.reduceAdd, Int.reduceSub, Int.reduceMul, Int.reduceNeg, Int.reduceToNat, List.reduceReplicate]
      (repeat' apply And.intro) <;> (try first | rfl | assumption | omega)
      · rw [htake]
        simp [dI]
        omega
      · refine ⟨[l[i]], by rw [htake]; simp; omega, ?_⟩
        rw [htake]
        simp
    · intro j env heap hj
      obtain ⟨hjl, g0, g1, g5, g6, mid, hmid, rfl⟩ := (hI _ _ _).1 hj
      by_cases hlt : j < l.length
      · have hxj : ((((l.take j).filter fun x => !p x) ++ mid ++ l.drop j).map dI)[j]? = some (dI l[j]) := by
          rw [List.getElem?_map, List.getElem?_append_right (by rw [List.length_append]; omega), List.length_append, hmid, Nat.sub_self, List.getElem?_drop, Nat.add_zero, List.getElem?_eq_getElem hlt]
          rfl
        simp (disch := omega) only [go_sem, Nat.reduceEqDiff, Nat.reduceAdd, Nat.reduceMul, Nat.reduceSub, Nat.reduceLeDiff, ↓reduceIte, reduceCtorEq, Int.reduceAdd, Int.reduceSub, Int.reduceMul, Int.reduceNeg, Int.reduceToNat, List.reduceReplicate, g0, g1, g5, g6, hxj]
        refine (hf l[j] (List.getElem_mem hlt) _).mono ?_
        rintro _ H1 ⟨rfl, rfl⟩
        cases hpx : p l[j] with
        | true =>
          simp (disch := omega) only [go_sem, Nat.reduceEqDiff, Nat.reduceAdd, Nat.reduceMul, Nat.reduceSub, Nat.reduceLeDiff, ↓reduceIte, reduceCtorEq, Int.reduceAdd, Int.reduceSub, Int.reduceMul, Int.reduceNeg, Int.reduceToNat, List.reduceReplicate, g0, g1, g5, g6, hpx]
          have ht : ((l.take (j + 1)).filter fun x => !p x) = (l.take j).filter fun x => !p x := by
            rw [List.take_add_one, List.getElem?_eq_getElem hlt, List.filter_append]
            simp [hpx]
          refine ⟨j + 1, _, GhostS.refl _, (hI _ _ _).2 ?_, by omega⟩
          simp (disch := omega) only [go_sem, Nat.reduceEqDiff, Nat.reduceAdd, Nat.reduceMul, Nat.reduceSub, Nat.reduceLeDiff, ↓reduceIte, reduceCtorEq, Int.reduceAdd, Int.reduceSub, Int.reduceMul, Int.reduceNeg, Int.reduceToNat, List.reduceReplicate, g0, g1, g5, g6, ht]
          (repeat' apply And.intro) <;> (try first | rfl | assumption | omega)
          refine ⟨mid ++ [l[j]], by rw [ht, List.length_append, ← Nat.add_assoc, hmid]; rfl, ?_⟩
          rw [ht, List.drop_eq_getElem_cons hlt]
          simp
        | false =>
          simp (disch := omega) only [go_sem, Nat.reduceEqDiff, Nat.reduceAdd, Nat.reduceMul, Nat.reduceSub, Nat.reduceLeDiff, ↓reduceIte, reduceCtorEq, Int.reduceAdd, Int.reduceSub, Int.reduceMul, Int.reduceNeg, Int.reduceToNat, List.reduceReplicate, g0, g1, g5, g6, hpx]
          have ht : ((l.take (j + 1)).filter fun x => !p x) = ((l.take j).filter fun x => !p x) ++ [l[j]] := by
            rw [List.take_add_one, List.getElem?_eq_getElem hlt, List.filter_append]
            simp [hpx]
          refine ⟨by simp; omega, ?_⟩
          refine ⟨j + 1, _, GhostS.refl _, (hI _ _ _).2 ?_, by omega⟩
          simp (disch := omega) only [go_sem, Nat.reduceEqDiff, Nat.reduceAdd, Nat.reduceMul, Nat.reduceSub, Nat.reduceLeDiff, ↓reduceIte, reduceCtorEq, Int.reduceAdd, Int.reduceSub, Int.reduceMul, Int.reduceNeg, Int.reduceToNat, List.reduceReplicate, g0, g1, g5, g6, ht]
          (repeat' apply And.intro) <;> (try first | rfl | assumption | omega)
          · simp [dI]
          · obtain ⟨mid', hm', hs⟩ := keep_step ((l.take j).filter fun x => !p x) mid l[j] (l.drop (j + 1))
            refine ⟨mid', by rw [ht, List.length_append, hm']; simp; omega, ?_⟩
            rw [ht, List.drop_eq_getElem_cons hlt]
            exact congrArg (fun c => upd H r (some (.cells c 3))) hs
      · simp (disch := omega) only [go_sem, Nat.reduceEqDiff, Nat.reduceAdd, Nat.reduceMul, Nat.reduceSub, Nat.reduceLeDiff, ↓reduceIte, reduceCtorEq, Int.reduceAdd, Int.reduceSub, Int.reduceMul, Int.reduceNeg, Int.reduceToNat, List.reduceReplicate, g0, g1, g5, g6]
        have hjl' : j = l.length := by omega
        subst hjl'
        rw [List.take_length] at hmid ⊢
        have hlen : ((l.filter fun x => !p x) ++ mid ++ l.drop l.length).length = l.length := by simp; omega
        have hle : (l.filter fun x => !p x).length ≤ l.length := List.length_filter_le _ _
        refine ⟨by rw [hlen]; omega, DFin.refl ⟨_, rfl, .inr ⟨r, [], l.length, List.replicate (l.length - (l.filter fun x => !p x).length) (dI 0), hr, by simp, by simp; omega, ?_⟩⟩⟩
        rw [List.drop_length, List.append_nil, List.map_append]
        have hml : mid.length = l.length - (l.filter fun x => !p x).length := by omega
        congr 4
        rw [← hml]
        unfold splice
        simp [dI]
end Go.Dl

-- EntryOrder: plain laws about queues, and about the map of where tasks are.
namespace Go.Dl
open Go Go.Proofs
set_option maxRecDepth 10000

/-- The map's entries. -/
def em (l : List (Int × Nat)) : List (DVal × DVal) := l.map fun p => (dI p.1, dI p.2)
theorem dKey_int (a b : Int) : dKey (dI a) (dI b) = some (decide (a = b)) := by simp [dKey, dI]
theorem dFind_none {t : Int} : ∀ {l : List (Int × Nat)}, t ∉ l.map (·.1) → ∀ n, dFind (dI t) (em l) n = some none
  | [], _, _ => rfl
  | p :: l, h, n => by
    simp only [List.map_cons, List.mem_cons, not_or] at h
    have ih := dFind_none h.2 (n + 1)
    simp only [em] at ih
    simp only [em, List.map_cons, dFind, dKey_int, ih, decide_eq_false h.1, dFindS]
theorem dFind_at {t : Int} {e : Nat} : ∀ {l : List (Int × Nat)} {i : Nat}, l[i]? = some (t, e) → (l.map (·.1)).Nodup → ∀ n, dFind (dI t) (em l) n = some (some (n + i))
  | [], i, h, _, _ => by simp at h
  | p :: l, 0, h, hn, n => by
    simp only [List.getElem?_cons_zero, Option.some.injEq] at h
    subst h
    simp [em, dFind, dKey_int, dFindS]
  | p :: l, i + 1, h, hn, n => by
    simp only [List.getElem?_cons_succ] at h
    simp only [List.map_cons, List.nodup_cons] at hn
    have hne : t ≠ p.1 := fun e1 => hn.1 (by rw [← e1]; exact List.mem_map.2 ⟨_, List.mem_of_getElem? h, rfl⟩)
    have ih := dFind_at h hn.2 (n + 1)
    simp only [em] at ih
    simp only [em, List.map_cons, dFind, dKey_int, ih, decide_eq_false hne, dFindS]
    congr 2; omega

theorem em_get {l : List (Int × Nat)} {i : Nat} {p : Int × Nat} (h : l[i]? = some p) : (em l)[i]? = some (dI p.1, dI p.2) := by simp [em, h]
theorem em_add (l : List (Int × Nat)) (t : Int) (e : Nat) : em l ++ [(dI t, dI e)] = em (l ++ [(t, e)]) := by simp [em]
theorem em_del (l : List (Int × Nat)) (i : Nat) : (em l).eraseIdx i = em (l.eraseIdx i) := by
  induction l generalizing i with
  | nil => simp [em]
  | cons p l ih => cases i with
    | zero => rfl
    | succ i => simp only [em] at ih ⊢; simp [ih]

theorem nodup_inj {α : Type} {l : List α} (h : l.Nodup) {i j : Nat} (hi : i < l.length) (hj : j < l.length) (e : l[i] = l[j]) : i = j := by
  have hp : l.Pairwise (· ≠ ·) := h
  rw [List.pairwise_iff_getElem] at hp
  rcases Nat.lt_trichotomy i j with h1 | h1 | h1
  · exact (hp i j hi hj h1 e).elim
  · exact h1
  · exact (hp j i hj hi h1 e.symm).elim
/-- The map tells where each task is. -/
structure AtQ (l : List (Int × Nat)) (q : List (List Int)) : Prop where
  nodup : (l.map (·.1)).Nodup
  mem : ∀ t e, (t, e) ∈ l ↔ t ∈ q.getD e []

theorem getD_set (q : List (List Int)) (n : Nat) (m : List Int) (h : n < q.length) (e : Nat) : (q.set n m).getD e [] = if e = n then m else q.getD e [] := by
  simp only [List.getD_eq_getElem?_getD, List.getElem?_set]
  by_cases h1 : n = e
  · subst h1; simp [h]
  · rw [if_neg h1, if_neg (fun e => h1 e.symm)]
theorem mem_flat {q : List (List Int)} {t : Int} : t ∈ q.flatten ↔ ∃ e, t ∈ q.getD e [] := by
  rw [List.mem_flatten]
  constructor
  · rintro ⟨l, hl, ht⟩
    obtain ⟨e, he, rfl⟩ := List.mem_iff_getElem.1 hl
    exact ⟨e, by simpa [he] using ht⟩
  · rintro ⟨e, he⟩
    by_cases hlt : e < q.length
    · exact ⟨q[e], List.getElem_mem hlt, by simpa [hlt] using he⟩
    · simp [hlt] at he

theorem AtQ.there {l : List (Int × Nat)} {q : List (List Int)} (h : AtQ l q) {t : Int} : t ∈ l.map (·.1) ↔ t ∈ q.flatten := by
  rw [mem_flat, List.mem_map]
  constructor
  · rintro ⟨p, hp, rfl⟩; exact ⟨p.2, (h.mem _ _).1 hp⟩
  · rintro ⟨e, he⟩; exact ⟨(t, e), (h.mem _ _).2 he, rfl⟩

theorem AtQ.start (n : Nat) : AtQ [] (List.replicate n []) := ⟨by simp, fun t e => by
  by_cases h : e < n <;> simp [h]⟩

theorem AtQ.put {l : List (Int × Nat)} {q : List (List Int)} (h : AtQ l q) {t : Int} {n : Nat} (hn : n < q.length) (ht : t ∉ q.flatten) : AtQ (l ++ [(t, n)]) (q.set n (q[n] ++ [t])) := by
  refine ⟨?_, fun t' e => ?_⟩
  · rw [List.map_append, List.nodup_append]
    refine ⟨h.nodup, by simp, fun a ha b hb => ?_⟩
    simp at hb; subst hb
    exact fun e => ht (h.there.1 (e ▸ ha))
  · rw [getD_set _ _ _ hn, List.mem_append, h.mem]
    have hg : q.getD n [] = q[n] := by simp [hn]
    by_cases he : e = n
    · subst he; simp [hn]
    · simp [he]

theorem AtQ.del {l : List (Int × Nat)} {q q' : List (List Int)} (h : AtQ l q) {t : Int} {e i : Nat} (hi : l[i]? = some (t, e)) (hq : ∀ x e, x ∈ q'.getD e [] ↔ x ∈ q.getD e [] ∧ x ≠ t) : AtQ (l.eraseIdx i) q' := by
  obtain ⟨hlt, hi'⟩ := List.getElem?_eq_some_iff.1 hi
  have hn := h.nodup
  refine ⟨?_, fun t' e' => ?_⟩
  · exact hn.sublist ((List.eraseIdx_sublist _ _).map _)
  · rw [hq, ← h.mem, List.mem_eraseIdx_iff_getElem]
    constructor
    · rintro ⟨j, hj, hne, e1⟩
      refine ⟨e1 ▸ List.getElem_mem hj, fun e2 => hne ?_⟩
      have h1 : (l.map (·.1))[j]'(by simpa using hj) = (l.map (·.1))[i]'(by simpa using hlt) := by simp [e1, hi', e2]
      exact nodup_inj hn (by simpa using hj) (by simpa using hlt) h1
    · rintro ⟨hm, hne⟩
      obtain ⟨j, hj, e1⟩ := List.mem_iff_getElem.1 hm
      refine ⟨j, hj, fun e2 => hne ?_, e1⟩
      subst e2
      rw [hi'] at e1; cases e1; rfl

theorem AtQ.get {l : List (Int × Nat)} {q : List (List Int)} (h : AtQ l q) {t : Int} (ht : t ∈ q.flatten) : ∃ (i e : Nat), l[i]? = some (t, e) ∧ t ∈ q.getD e [] := by
  obtain ⟨e, he⟩ := mem_flat.1 ht
  obtain ⟨i, hi⟩ := List.getElem?_of_mem ((h.mem _ _).2 he)
  exact ⟨i, e, hi, he⟩

-- queues -----------------------------------------------------------------------------------------------------------------------
theorem mayQ_nodup {q : List (List Int)} (h : mayQ q = true) : q.flatten.Nodup := by
  simp only [mayQ, Bool.and_eq_true, decide_eq_true_eq] at h; exact h.2
theorem mayQ_range {q : List (List Int)} (h : mayQ q = true) {t : Int} (ht : t ∈ q.flatten) : 0 ≤ t ∧ t < 32 := by
  simp only [mayQ, Bool.and_eq_true, decide_eq_true_eq, List.all_eq_true] at h; exact h.1.2 t ht
theorem mayQ_len {q : List (List Int)} (h : mayQ q = true) : q.length ≤ 8 := by
  simp only [mayQ, Bool.and_eq_true, decide_eq_true_eq] at h; exact h.1.1

theorem cntTo_le {l : List Int} (h : ∀ x, l.count x ≤ 1) : ∀ m, cntTo l m ≤ m
  | 0 => by
    have : cntTo l 0 = 0 := by
      unfold cntTo
      rw [List.countP_eq_zero]
      intro x _ hx
      simp only [decide_eq_true_eq] at hx
      omega
    omega
  | m + 1 => by rw [cntTo_succ]; have := cntTo_le h m; have := h (m : Int); omega
theorem mayQ_flat {q : List (List Int)} (h : mayQ q = true) : q.flatten.length ≤ 32 := by
  have h1 := (mayQ_iff q).1 h
  rw [← h1.2.1]
  exact cntTo_le (List.nodup_iff_count.1 (mayQ_nodup h)) 32
theorem mayQ_row {q : List (List Int)} (h : mayQ q = true) {l : List Int} (hl : l ∈ q) : l.length ≤ 32 := by
  have h1 := mayQ_flat h
  rw [List.length_flatten] at h1
  have := le_sum (List.mem_map.2 ⟨l, hl, rfl⟩ : l.length ∈ q.map List.length)
  omega

/-- The row of a task is one. -/
theorem mayQ_apart {q : List (List Int)} (h : mayQ q = true) {t : Int} {a b : Nat} (ha : t ∈ q.getD a []) (hb : t ∈ q.getD b []) : a = b := by
  have hp := (List.pairwise_flatten.1 (mayQ_nodup h)).2
  have la : a < q.length := by
    rcases Nat.lt_or_ge a q.length with h1 | h1
    · exact h1
    · simp [h1] at ha
  have lb : b < q.length := by
    rcases Nat.lt_or_ge b q.length with h1 | h1
    · exact h1
    · simp [h1] at hb
  rw [List.getD_eq_getElem?_getD, List.getElem?_eq_getElem la, Option.getD_some] at ha
  rw [List.getD_eq_getElem?_getD, List.getElem?_eq_getElem lb, Option.getD_some] at hb
  rw [List.pairwise_iff_getElem] at hp
  rcases Nat.lt_trichotomy a b with h1 | h1 | h1
  · exact (hp a b la lb h1 t ha t hb rfl).elim
  · exact h1
  · exact (hp b a lb la h1 t hb t ha rfl).elim
theorem mayQ_rowNodup {q : List (List Int)} (h : mayQ q = true) {n : Nat} (hn : n < q.length) : q[n].Nodup :=
  (List.pairwise_flatten.1 (mayQ_nodup h)).1 _ (List.getElem_mem hn)

/-- A part of a row in its place. -/
theorem mayQ_part {q : List (List Int)} (h : mayQ q = true) {n : Nat} (hn : n < q.length) {l : List Int} (hl : l.Sublist q[n]) : mayQ (q.set n l) = true := by
  have hs : (q.set n l).flatten.Sublist q.flatten := by
    rw [set_split q n _ hn]
    conv => rhs; rw [split_at q n hn]
    simp only [List.flatten_append, List.flatten_cons]
    exact (List.Sublist.refl _).append (hl.append (List.Sublist.refl _))
  have h1 := mayQ_nodup h
  have h3 := mayQ_len h
  simp only [mayQ, Bool.and_eq_true, decide_eq_true_eq, List.all_eq_true]
  exact ⟨⟨by simpa using h3, fun x hx => mayQ_range h (hs.subset hx)⟩, h1.sublist hs⟩

theorem part_mem {q : List (List Int)} (h : mayQ q = true) {n : Nat} (hn : n < q.length) {l : List Int} {t : Int} (ht : t ∈ q[n]) (hl : ∀ x, x ∈ l ↔ x ∈ q[n] ∧ x ≠ t) (x : Int) (e : Nat) : x ∈ (q.set n l).getD e [] ↔ x ∈ q.getD e [] ∧ x ≠ t := by
  have hg : q.getD n [] = q[n] := by simp [hn]
  rw [getD_set _ _ _ hn]
  by_cases he : e = n
  · subst he; rw [if_pos rfl, hg, hl]
  · rw [if_neg he]
    refine ⟨fun hx => ⟨hx, fun e1 => he ?_⟩, fun hx => hx.1⟩
    subst e1
    exact mayQ_apart h hx (by rw [hg]; exact ht)

theorem findP_some {q : List (List Int)} {t : Int} (h : mayQ q = true) {e : Nat} (he : t ∈ q.getD e []) : findP q t = some (e, t) := by
  cases hf : findP q t with
  | none => 
    have := findP_none.1 hf
    rw [List.count_eq_zero] at this
    exact absurd (mem_flat.2 ⟨e, he⟩) this
  | some p =>
    obtain ⟨h1, h2, h3⟩ := findP_mem hf
    have : p.1 = e := mayQ_apart h (by rw [List.getD_eq_getElem?_getD, List.getElem?_eq_getElem h1, Option.getD_some]; exact h3) he
    rw [← this, ← h2]
theorem findP_no {q : List (List Int)} {t : Int} (h : t ∉ q.flatten) : findP q t = none := findP_none.2 (List.count_eq_zero.2 h)

theorem eraseIdx_filter {t : Int} : ∀ {l : List Int}, l.Nodup → ∀ {i : Nat}, l[i]? = some t → l.eraseIdx i = l.filter fun x => !decide (x = t)
  | [], _, i, h => by simp at h
  | x :: l, hn, 0, h => by
    simp only [List.getElem?_cons_zero, Option.some.injEq] at h
    subst h
    rw [List.nodup_cons] at hn
    simp only [List.eraseIdx_cons_zero, List.filter_cons, decide_true, Bool.not_true, Bool.false_eq_true, if_false]
    rw [List.filter_eq_self.2]
    intro y hy
    have : y ≠ x := fun e => hn.1 (e ▸ hy)
    simpa using this
  | x :: l, hn, i + 1, h => by
    rw [List.nodup_cons] at hn
    simp only [List.getElem?_cons_succ] at h
    have hne : x ≠ t := fun e => hn.1 (e ▸ List.mem_of_getElem? h)
    simp only [List.eraseIdx_cons_succ, List.filter_cons, eraseIdx_filter hn.2 h, decide_eq_false hne, Bool.not_false, if_true]

theorem idx_get {l : List Int} {t : Int} (h : t ∈ l) : l[(idx l t).toNat]? = some t := by
  unfold idx
  cases hf : l.findIdx? (fun x => decide (x = t)) with
  | none =>
    have := List.findIdx?_eq_none_iff.1 hf t h
    simp at this
  | some i =>
    obtain ⟨h1, h2, _⟩ := List.findIdx?_eq_some_iff_getElem.1 hf
    simp only [decide_eq_true_eq] at h2
    simp [h1, h2]

-- what the calls return ----------------------------------------------------------------------------------------------------------
theorem putL_eq {q : List (List Int)} (h : mayQ q = true) {e : Nat} {t : Int} (ht : 0 ≤ t ∧ t < 32) :
    putL q e t = if q.length ≤ e then ([], 4) else if t ∈ q.flatten then ([], 7) else (q.set e (q.getD e [] ++ [t]), 0) := by
  by_cases he : q.length ≤ e
  · have hc : chk q e t = 4 := by rw [chk, if_pos h, if_neg (by omega)]
    rw [putL, hc, if_pos (by simp), if_pos he]
  · have hc : chk q e t = 0 := by rw [chk, if_pos h, if_pos (by omega)]
    rw [putL, hc, if_neg (by simp), if_neg he]
    by_cases hm : t ∈ q.flatten
    · obtain ⟨e', he'⟩ := mem_flat.1 hm
      rw [findP_some h he', if_pos (by simp), if_pos hm]
    · rw [findP_no hm, if_neg (by simp), if_neg hm, Int.toNat_natCast]
theorem takeL_eq {q : List (List Int)} (h : mayQ q = true) {e : Nat} :
    takeL q e = if q.length ≤ e then (([], 0, 4) : List (List Int) × Int × Int) else match q.getD e [] with
      | [] => ([], 0, 6)
      | t :: l => (q.set e l, t, 0) := by
  by_cases he : q.length ≤ e
  · have hc : chk q e 0 = 4 := by rw [chk, if_pos h, if_neg (by omega)]
    rw [takeL, hc, if_pos (by simp), if_pos he]
  · have hc : chk q e 0 = 0 := by rw [chk, if_pos h, if_pos (by omega)]
    rw [takeL, hc, if_neg (by simp), if_neg he, Int.toNat_natCast]
    cases q.getD e [] <;> rfl
theorem removeL_no {q : List (List Int)} (h : mayQ q = true) {t : Int} (ht : 0 ≤ t ∧ t < 32) (hm : t ∉ q.flatten) : removeL q t = ([], 6) := by
  rw [removeL, h, if_neg (by simp), if_neg (fun k => k ht), findP_no hm]
theorem removeL_at {q : List (List Int)} (h : mayQ q = true) {t : Int} {e : Nat} (he : e < q.length) (hm : t ∈ q[e]) : removeL q t = (q.set e (q[e].filter fun x => !decide (x = t)), 0) := by
  have hg : q.getD e [] = q[e] := by simp [he]
  have ht := mayQ_range h (mem_flat.2 ⟨e, by rw [hg]; exact hm⟩)
  rw [removeL, h, if_neg (by simp), if_neg (fun k => k ht), findP_some h (by rw [hg]; exact hm)]
  simp only [hg]
  rw [eraseIdx_filter (mayQ_rowNodup h he) (idx_get hm)]
theorem filter_mem (l : List Int) (t x : Int) : x ∈ l.filter (fun x => !decide (x = t)) ↔ x ∈ l ∧ x ≠ t := by simp
end Go.Dl
