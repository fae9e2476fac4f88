/- The data level and the contracts of the functions that are reached (part 6). -/
import Derived.Test.YtbgelenonjfajaaLFe
set_option linter.unusedSimpArgs false
set_option linter.unusedVariables false
-- Rows of the call's own: a list of lists of ints, each in a block of its own.
namespace Go.Dl
open Go

/-- v is nil (an empty list), or a slice of the call's own with the ints l, whatever lies ahead of and behind it in its block. -/
def OwnV (e : TypeId) (H : DHeap) (l : List Int) (v : DVal) (H' : DHeap) : Prop :=
  (l = [] ∧ v = .nilSlice ∧ H' = H) ∨ ∃ r pre lo rest, H r = none ∧ v = .oslice 1 r pre.length l.length lo ∧ l.length + rest.length = lo ∧ H' = upd H r (some (.cells (pre ++ (l.map dI ++ rest)) e))

def OwnRows (e : TypeId) (H : DHeap) : List (List Int) → List DVal → DHeap → Prop
  | [], vs, H' => vs = [] ∧ H' = H
  | l :: q, vs, H' => ∃ v vs' H1, vs = v :: vs' ∧ OwnRows e H q vs' H1 ∧ OwnV e H1 l v H'

/-- Two slices of the call's own, told in the other order. -/
theorem OwnV.swap {e : TypeId} {H H1 H2 : DHeap} {l m : List Int} {v u : DVal} (h : OwnV e H l v H1) (k : OwnV e H1 m u H2) : ∃ H1', OwnV e H m u H1' ∧ OwnV e H1' l v H2 := by
  rcases h with ⟨rfl, rfl, rfl⟩ | ⟨r, pre, lo, rest, hr, rfl, hlo, rfl⟩
  · exact ⟨H2, k, .inl ⟨rfl, rfl, rfl⟩⟩
  · rcases k with ⟨rfl, rfl, rfl⟩ | ⟨r', pre', lo', rest', hr', rfl, hlo', rfl⟩
    · exact ⟨H, .inl ⟨rfl, rfl, rfl⟩, .inr ⟨r, pre, lo, rest, hr, rfl, hlo, rfl⟩⟩
    · rw [upd_eq_none] at hr'
      exact ⟨_, .inr ⟨r', pre', lo', rest', hr'.2.2, rfl, hlo', rfl⟩, .inr ⟨r, pre, lo, rest, by simp [upd, hr', hr], rfl, hlo, upd_swap hr'.1 _ _ _⟩⟩

theorem OwnRows.len {e : TypeId} {H : DHeap} : ∀ {q : List (List Int)} {vs : List DVal} {H' : DHeap}, OwnRows e H q vs H' → vs.length = q.length
  | [], _, _, h => by rw [h.1]; rfl
  | l :: q, vs, H', h => by
    obtain ⟨v, vs', H1, rfl, h1, _⟩ := h
    simp [h1.len]

/-- **ROW i IS TAKEN OUT**, and whatever row is put in its place. -/
theorem OwnRows.focus {e : TypeId} {H : DHeap} : ∀ {q : List (List Int)} {vs : List DVal} {H' : DHeap}, OwnRows e H q vs H' → ∀ (i : Nat) (hi : i < q.length), ∃ v H1, vs[i]? = some v ∧ OwnV e H1 q[i] v H' ∧
    ∀ l' v' H2, OwnV e H1 l' v' H2 → OwnRows e H (q.set i l') (vs.set i v') H2
  | l :: q, vs, H', h, 0, hi => by
    obtain ⟨v, vs', H1, rfl, h1, h2⟩ := h
    exact ⟨v, H1, rfl, h2, fun l' v' H2 k => ⟨v', vs', H1, rfl, h1, k⟩⟩
  | l :: q, vs, H', h, i + 1, hi => by
    obtain ⟨v, vs', H1, rfl, h1, h2⟩ := h
    obtain ⟨u, H3, g1, g2, g3⟩ := h1.focus i (by simpa using hi)
    obtain ⟨H4, k1, k2⟩ := g2.swap h2
    refine ⟨u, H4, by simpa using g1, k2, fun l' v' H2 k => ?_⟩
    obtain ⟨H5, m1, m2⟩ := k1.swap k
    exact ⟨v, vs'.set i v', H5, rfl, g3 l' v' H5 m1, m2⟩

/-- Another block beside it. -/
theorem OwnV.frame {e : TypeId} {H H1 : DHeap} {l : List Int} {v : DVal} (h : OwnV e H l v H1) {r : Nat} (hr : H1 r = none) (o : DObj) : OwnV e (upd H r (some o)) l v (upd H1 r (some o)) ∧ H r = none := by
  rcases h with ⟨rfl, rfl, rfl⟩ | ⟨r', pre, lo, rest, hr', rfl, hlo, rfl⟩
  · exact ⟨.inl ⟨rfl, rfl, rfl⟩, hr⟩
  · rw [upd_eq_none] at hr
    exact ⟨.inr ⟨r', pre, lo, rest, by simp [upd, hr, hr'], rfl, hlo, upd_swap hr.1 _ _ _⟩, hr.2.2⟩
theorem OwnV.unframe {e : TypeId} {H H1 : DHeap} {l : List Int} {v : DVal} {r : Nat} {o : DObj} (h : OwnV e (upd H r (some o)) l v H1) (hr : H r = none) : OwnV e H l v (upd H1 r none) := by
  rcases h with ⟨rfl, rfl, rfl⟩ | ⟨r', pre, lo, rest, hr', rfl, hlo, rfl⟩
  · exact .inl ⟨rfl, rfl, upd_none_self hr _⟩
  · rw [upd_eq_none] at hr'
    exact .inr ⟨r', pre, lo, rest, hr'.2.2, rfl, hlo, by rw [upd_swap hr'.2.1, upd_none_self hr]⟩
theorem OwnRows.frame {e : TypeId} {H : DHeap} : ∀ {q : List (List Int)} {vs : List DVal} {H1 : DHeap}, OwnRows e H q vs H1 → ∀ {r : Nat}, H1 r = none → ∀ (o : DObj), OwnRows e (upd H r (some o)) q vs (upd H1 r (some o)) ∧ H r = none
  | [], vs, H1, h, r, hr, o => by
    obtain ⟨rfl, rfl⟩ := h
    exact ⟨⟨rfl, rfl⟩, hr⟩
  | l :: q, vs, H1, h, r, hr, o => by
    obtain ⟨v, vs', H2, rfl, h1, h2⟩ := h
    obtain ⟨k1, k2⟩ := h2.frame hr o
    obtain ⟨m1, m2⟩ := h1.frame k2 o
    exact ⟨⟨v, vs', _, rfl, m1, k1⟩, m2⟩
theorem OwnRows.unframe {e : TypeId} {H : DHeap} : ∀ {q : List (List Int)} {vs : List DVal} {H1 : DHeap} {r : Nat} {o : DObj}, OwnRows e (upd H r (some o)) q vs H1 → H r = none → ∃ H2, OwnRows e H q vs H2 ∧ H1 = upd H2 r (some o) ∧ H2 r = none
  | [], vs, H1, r, o, h, hr => by
    obtain ⟨rfl, rfl⟩ := h
    exact ⟨H, ⟨rfl, rfl⟩, rfl, hr⟩
  | l :: q, vs, H1, r, o, h, hr => by
    obtain ⟨v, vs', H2, rfl, h1, h2⟩ := h
    obtain ⟨H3, k1, rfl, k3⟩ := h1.unframe hr
    refine ⟨upd H1 r none, ⟨v, vs', H3, rfl, k1, h2.unframe k3⟩, ?_, by simp [upd]⟩
    have hro : H1 r = some o := by
      rcases h2 with ⟨_, _, rfl⟩ | ⟨r', pre, lo, rest, hr', _, _, rfl⟩
      · simp [upd]
      · rw [upd_eq_none] at hr'
        simp [upd, hr'.2.1]
    rw [upd_upd]
    exact (upd_self hro).symm

/-- **append of one int** to such a row. -/
theorem OwnV.append1 {e : TypeId} {H H0 : DHeap} {bytes : Nat} {l : List Int} {v : DVal} {t : Int} {dst : Option Nat} {K : DK} {env : Nat → DVal} (hv : OwnV e H l v H0) (hb : (l.length + 1) * bytes ≤ 35184372088832)
    (hK : ∀ v' H', OwnV e H (l ++ [t]) v' H' → K ⟨updO env dst v', H'⟩) : dAppendTo e 1 bytes 1 [dI t] dst v K ⟨env, H0⟩ := by
  rcases hv with ⟨rfl, rfl, rfl⟩ | ⟨r, pre, lo, rest, hr, rfl, hlo, rfl⟩
  · simp only [dAppendTo]
    refine ⟨fun h => by omega, fun _ => ⟨by simpa using hb, fun r hr => hK _ _ (.inr ⟨r, [], 1, [], hr, rfl, rfl, rfl⟩)⟩⟩
  · simp only [dAppendTo, true_and]
    rw [upd_same]
    simp only [dAppendO, true_and, Nat.mul_one, upd_upd]
    refine ⟨fun h1 => ⟨by simp; omega, ?_⟩, fun h1 => ⟨by simp, hb, fun r' pre' hr' _ => ?_⟩⟩
    · cases rest with
      | nil => simp at hlo; omega
      | cons x rest =>
        have hsp : splice (pre ++ (l.map dI ++ x :: rest)) (pre.length + l.length) [dI t] = pre ++ ((l ++ [t]).map dI ++ rest) := by
          have h2 : pre ++ (l.map dI ++ x :: rest) = (pre ++ l.map dI) ++ (x :: rest) := by simp
          have h3 : (pre ++ l.map dI).length = pre.length + l.length := by simp
          rw [h2, ← h3]
          unfold splice
          rw [List.take_left, List.drop_append, List.drop_of_length_le (by simp)]
          simp
        rw [hsp]
        refine hK _ _ (.inr ⟨r, pre, lo, rest, hr, by simp, by simp at hlo ⊢; omega, rfl⟩)
    · rw [if_pos (.inl (by omega)), upd_self hr]
      rw [upd_self hr] at hr'
      have hrest : rest = [] := List.length_eq_zero_iff.1 (by omega)
      subst hrest
      refine hK _ _ (.inr ⟨r', pre', l.length + 1, [], hr', by simp, by simp, ?_⟩)
      simp [take_map_len]

theorem OwnRows.snoc {e : TypeId} {H : DHeap} : ∀ {q : List (List Int)} {vs : List DVal} {H1 H2 : DHeap} {l : List Int} {v : DVal}, OwnRows e H q vs H1 → OwnV e H1 l v H2 → OwnRows e H (q ++ [l]) (vs ++ [v]) H2
  | [], vs, H1, H2, l, v, h, k => by
    obtain ⟨rfl, rfl⟩ := h
    exact ⟨v, [], _, rfl, ⟨rfl, rfl⟩, k⟩
  | m :: q, vs, H1, H2, l, v, h, k => by
    obtain ⟨u, vs', H3, rfl, h1, h2⟩ := h
    obtain ⟨H4, k1, k2⟩ := h2.swap k
    exact ⟨u, vs' ++ [v], H4, rfl, h1.snoc k1, k2⟩

/-- A row that lay below comes on top. -/
theorem OwnRows.above {e : TypeId} {H H0 : DHeap} {l : List Int} {v : DVal} (h0 : OwnV e H l v H0) : ∀ {q : List (List Int)} {vs : List DVal} {H1 : DHeap}, OwnRows e H0 q vs H1 → ∃ H0', OwnRows e H q vs H0' ∧ OwnV e H0' l v H1
  | [], vs, H1, h => by
    obtain ⟨rfl, rfl⟩ := h
    exact ⟨H, ⟨rfl, rfl⟩, h0⟩
  | m :: q, vs, H1, h => by
    obtain ⟨u, vs', H3, rfl, h1, h2⟩ := h
    obtain ⟨H4, k1, k2⟩ := h1.above h0
    obtain ⟨H5, m1, m2⟩ := k2.swap h2
    exact ⟨H5, ⟨u, vs', H4, rfl, k1, m1⟩, m2⟩

/-- The row below is let go. -/
theorem OwnV.drop {e : TypeId} {H H0 H1 : DHeap} {l m : List Int} {u v : DVal} (h : OwnV e H m u H0) (k : OwnV e H0 l v H1) : ∃ H2, OwnV e H l v H2 ∧ ∀ r o, H2 r = some o → H1 r = some o := by
  obtain ⟨H2, k1, k2⟩ := h.swap k
  refine ⟨H2, k1, fun r o ho => ?_⟩
  rcases k2 with ⟨_, _, rfl⟩ | ⟨r', pre, lo, rest, hr', _, _, rfl⟩
  · exact ho
  · have : r ≠ r' := fun e => by rw [e, hr'] at ho; cases ho
    simp [upd, this, ho]

/-- A list of rows of the call's own, in a slice of its own. -/
def OwnLL (e e' : TypeId) (H : DHeap) (q : List (List Int)) (v : DVal) (H' : DHeap) : Prop :=
  (q = [] ∧ v = .nilSlice ∧ H' = H) ∨ ∃ ro vs H1, OwnRows e H q vs H1 ∧ H1 ro = none ∧ v = .oslice 1 ro 0 q.length q.length ∧ H' = upd H1 ro (some (.cells vs e'))

theorem OwnA.ownV {e : TypeId} {H H0 : DHeap} {l : List Int} {v : DVal} (h : OwnA H e 1 l.length (l.map dI) v H0) : OwnV e H l v H0 := by
  rcases h with ⟨a, b, rfl, rfl⟩ | ⟨r, hr, hl, rfl, rfl⟩
  · exact .inl ⟨List.length_eq_zero_iff.1 a, rfl, rfl⟩
  · exact .inr ⟨r, [], l.length, [], hr, rfl, by simp, by simp⟩

/-- Own rows seen as memory that lasts. -/
theorem OwnV.ghost {e : TypeId} {H H0 : DHeap} {l : List Int} {v : DVal} (h : OwnV e H l v H0) : GhostE H0 v H (dIs l) := by
  rcases h with ⟨rfl, rfl, rfl⟩ | ⟨r, pre, lo, rest, hr, rfl, hlo, rfl⟩
  · exact fun w hw => ⟨hw, fun _ h => h, fun x hx => DLe.nil _ _ _ hx⟩
  · have := GhostE.fz (v := .oslice 1 r pre.length l.length lo) (upd_same H r (some (.cells (pre ++ (l.map dI ++ rest)) e)))
    rw [upd_none_self hr] at this
    simp only [Dl.fz, if_pos, List.drop_left, Nat.mul_one] at this
    rw [List.take_append_of_le_length (by simp), List.take_of_length_le (by simp)] at this
    exact this

-- loose values: none points into memory that lasts -------------------------------------------------------------------------------
/-- Whether this value describes a model's value does not hang on which blocks are the call's own. -/
def loose : DVal → Bool
  | .bool _ | .int _ _ | .str _ | .nilPtr | .nilSlice | .nilMap | .nilFunc | .nilIface => true
  | .optr _ _ | .oslice _ _ _ _ _ | .omap _ => true
  | .tuple l => looses l
  | .agg l => looses l
  | _ => false
where looses : List DVal → Bool
  | [] => true
  | d :: ds => loose d && looses ds

mutual
theorem loose_rel {w : World} {H H' : DHeap} : ∀ (d : DVal) (v : Value), loose d = true → Rel w H d v → Rel w H' d v
  | .tuple l, v, hp, h => by
    simp only [loose] at hp
    simp only [Rel] at h ⊢
    obtain ⟨x, rfl, h1⟩ := h
    exact ⟨x, rfl, looses_rel _ _ hp h1⟩
  | .agg l, v, hp, h => by
    simp only [loose] at hp
    simp only [Rel] at h ⊢
    obtain ⟨x, rfl, h1⟩ := h
    exact ⟨x, rfl, looses_rel _ _ hp h1⟩
  | .bool x, v, hp, h => by simpa [Rel] using h
  | .int x y, v, hp, h => by simpa [Rel] using h
  | .str x, v, hp, h => by simpa [Rel] using h
  | .nilPtr, v, hp, h => by simpa [Rel] using h
  | .nilSlice, v, hp, h => by simpa [Rel] using h
  | .nilMap, v, hp, h => by simpa [Rel] using h
  | .nilFunc, v, hp, h => by simpa [Rel] using h
  | .nilIface, v, hp, h => by simpa [Rel] using h
  | .optr _ _, v, hp, h => by simpa [Rel] using h
  | .oslice _ _ _ _ _, v, hp, h => by simpa [Rel] using h
  | .omap _, v, hp, h => by simpa [Rel] using h
  | .raw _, _, hp, _ => by cases hp
  | .vptr _ _, _, hp, _ => by cases hp
  | .vslice _ _, _, hp, _ => by cases hp
  | .func _ _ _, _, hp, _ => by cases hp
  | .iface _ _, _, hp, _ => by cases hp
theorem looses_rel {w : World} {H H' : DHeap} : ∀ (ds : List DVal) (vs : List Value), loose.looses ds = true → RelL w H ds vs → RelL w H' ds vs
  | [], _, _, h => by simpa [RelL] using h
  | d :: ds, vs, hp, h => by
    simp only [loose.looses, Bool.and_eq_true] at hp
    simp only [RelL] at h ⊢
    obtain ⟨y, ys, rfl, h1, h2⟩ := h
    exact ⟨y, ys, rfl, loose_rel d y hp.1 h1, looses_rel ds ys hp.2 h2⟩
end
theorem looses_iff {l : List DVal} : loose.looses l = true ↔ ∀ d ∈ l, loose d = true := by
  induction l with
  | nil => simp [loose.looses]
  | cons d l ih => simp [loose.looses, ih]
theorem looses_append {l m : List DVal} : loose.looses (l ++ m) = true ↔ loose.looses l = true ∧ loose.looses m = true := by
  simp only [looses_iff, List.mem_append]
  exact ⟨fun h => ⟨fun d hd => h d (.inl hd), fun d hd => h d (.inr hd)⟩, fun h d hd => hd.elim (h.1 d) (h.2 d)⟩
theorem looses_ints (l : List Int) : loose.looses (l.map dI) = true := by
  rw [looses_iff]; intro d hd
  obtain ⟨x, _, rfl⟩ := List.mem_map.1 hd
  rfl
def looseO : DObj → Bool
  | .cells cs _ => loose.looses cs
  | .map es => es.all fun p => loose p.1 && loose p.2
  | .loop _ _ _ => false
  | .iter _ _ => true
/-- What H' has beyond H is loose. -/
def Loose (H H' : DHeap) : Prop := ∀ r o, H' r = some o → H r = some o ∨ looseO o = true
theorem Loose.refl (H : DHeap) : Loose H H := fun _ _ h => .inl h
theorem Loose.trans {H H' H'' : DHeap} (h : Loose H H') (k : Loose H' H'') : Loose H H'' := fun r o ho => by
  rcases k r o ho with h1 | h1
  · exact h r o h1
  · exact .inr h1
theorem Loose.sub {H H' H'' : DHeap} (h : Loose H H') (k : ∀ r o, H'' r = some o → H' r = some o) : Loose H H'' := fun r o ho => h r o (k r o ho)
theorem Loose.upd {H H' : DHeap} (h : Loose H H') {r : Nat} {o : DObj} (ho : looseO o = true) : Loose H (upd H' r (some o)) := fun b p hb => by
  simp only [Dl.upd] at hb
  split at hb
  · cases hb; exact .inr ho
  · exact h b p hb
theorem Loose.unframe {H H' : DHeap} {r : Nat} {o : DObj} (h : Loose (Dl.upd H r (some o)) H') : Loose H (Dl.upd H' r none) := fun b p hb => by
  simp only [Dl.upd] at hb
  split at hb
  · cases hb
  · rename_i hne
    rcases h b p hb with h1 | h1
    · simp only [Dl.upd, if_neg hne] at h1; exact .inl h1
    · exact .inr h1
theorem OwnA.loose {e : TypeId} {H H0 : DHeap} {n : Nat} {cs : List DVal} {v : DVal} (h : OwnA H e 1 n cs v H0) (hc : loose.looses cs = true) : Loose H H0 := by
  rcases h with ⟨_, _, _, rfl⟩ | ⟨r, hr, hl, rfl, rfl⟩
  · exact .refl _
  · exact (Loose.refl H).upd hc
theorem OwnV.one_loose {e : TypeId} {H H1 : DHeap} {l : List Int} {v : DVal} (h : OwnV e H l v H1) : Dl.loose v = true := by
  rcases h with ⟨_, rfl, _⟩ | ⟨_, _, _, _, _, rfl, _⟩ <;> rfl
theorem OwnRows.looses {e : TypeId} {H : DHeap} : ∀ {q : List (List Int)} {vs : List DVal} {H1 : DHeap}, OwnRows e H q vs H1 → loose.looses vs = true
  | [], _, _, h => by rw [h.1]; rfl
  | l :: q, vs, H1, h => by
    obtain ⟨v, vs', H2, rfl, h1, h2⟩ := h
    simp only [loose.looses, h2.one_loose, h1.looses, Bool.and_self]
end Go.Dl

-- entry.with, Put, Take, Remove: results that are the call's own.
namespace Go.Dl
open Go Go.Proofs
set_option maxRecDepth 10000

theorem OwnV.keep {e : TypeId} {H H1 : DHeap} {l : List Int} {v : DVal} (h : OwnV e H l v H1) {r : Nat} {o : DObj} (hr : H r = some o) : H1 r = some o := by
  rcases h with ⟨_, _, rfl⟩ | ⟨r', pre, lo, rest, hr', _, _, rfl⟩
  · exact hr
  · have : r ≠ r' := fun e => by rw [e, hr'] at hr; cases hr
    simp [upd, this, hr]

/-- k rows are laid, in a slice of n. -/
def WRows (H0 : DHeap) (n : Nat) (q : List (List Int)) (v : DVal) (heap : DHeap) : Prop :=
  ∃ ro vs H1, OwnRows 3 H0 q vs H1 ∧ Loose H0 H1 ∧ H1 ro = none ∧ v = .oslice 1 ro 0 n n ∧ heap = upd H1 ro (some (.cells (vs ++ List.replicate (n - q.length) .nilSlice) 27))

theorem splice_setD (vs : List DVal) (e : Nat) (v : DVal) (h : e < vs.length) : splice vs e [v] = vs.set e v := by
  unfold splice
  rw [List.set_eq_take_append_cons_drop, if_pos h]
  simp

theorem with_own (G : Nat → DVal) (q : List (List Int)) (e : Nat) (l : List Int) (v : DVal) (H H0 : DHeap) (he : e < q.length) (hq : q.length ≤ 1099511627776) (hl : ∀ l ∈ q, l.length ≤ 1099511627776) (hv : OwnV 3 H l v H0) (hL : Loose H H0) (hone : v.cells = [v]) (hone' : v.one = true) :
    DCalls Try.prog G 42 [dIss q, dI e, v] H0 fun x H' => ∃ u, x = .ret u ∧ OwnLL 3 27 H (q.set e l) u H' ∧ Loose H H' := by
  refine dcalls_intro Try.func42 Try.call42 rfl (by kernel_rfl) ?_
  simp (disch := omega) only [go_sem, ↓reduceIte]
  intro r hr; dsimp only at hr
  simp (disch := omega) only [go_sem, ↓reduceIte]
  obtain ⟨I, hI⟩ : ∃ I : Nat → (Nat → DVal) → DHeap → Prop, ∀ k env heap, I k env heap ↔ (env 0 = dIss q ∧ env 1 = dI e ∧ env 2 = v ∧ env 13 = dI q.length ∧ env 14 = dI k ∧ k ≤ q.length ∧ WRows H0 q.length (q.take k) (env 7) heap) := ⟨_, fun _ _ _ => Iff.rfl⟩
  refine DLoop.run I (fun k => q.length - k) 0 ((hI _ _ _).2 ?_) ?_
  · simp (disch := omega) only [go_sem, ↓reduceIte]
    (repeat' apply And.intro) <;> (try first | rfl | assumption | omega)
    exact ⟨r, [], H0, ⟨rfl, rfl⟩, .refl _, hr, rfl, by simp⟩
  · intro k env heap hk
    obtain ⟨h0, h1, h2, h13, h14, hk, r, vs, H1, hrows, hlo, hr, h7, rfl⟩ := (hI _ _ _).1 hk
    have htl : (q.take k).length = k := by rw [List.length_take]; omega
    have hvl : vs.length = k := by rw [hrows.len, htl]
    by_cases hlt : k < q.length
    · simp (disch := omega) only [go_sem, ↓reduceIte, h0, h1, h2, h13, h14, h7]
      refine (clone_own G q[k] _ (hl _ (List.getElem_mem hlt))).mono ?_
      rintro _ H2 ⟨u, rfl, hu⟩
      have hu' := hu.ownV
      have hro := hu'.keep (upd_same H1 r _)
      have hu1 := hu'.unframe hr
      have huc : u.cells = [u] ∧ u.one = true := by
        rcases hu with ⟨_, _, rfl, _⟩ | ⟨_, _, _, rfl, _⟩ <;> exact ⟨rfl, rfl⟩
      simp (disch := omega) only [go_sem, ↓reduceIte, h0, h1, h2, h13, h14, h7, hro, huc.1, huc.2]
      refine ⟨by rw [List.length_append, List.length_replicate, hvl, htl]; omega, k + 1, _, GhostS.refl _, (hI _ _ _).2 ?_, by omega⟩
      simp (disch := omega) only [go_sem, ↓reduceIte, h0, h1, h2, h13, h14, h7]
      (repeat' apply And.intro) <;> (try first | rfl | assumption | omega)
      have hst := hrows.snoc hu1
      rw [show q.take k ++ [q[k]] = q.take (k + 1) by rw [List.take_add_one, List.getElem?_eq_getElem hlt]; rfl] at hst
      refine ⟨r, vs ++ [u], upd H2 r none, hst, hlo.trans (hu.loose (looses_ints _)).unframe, by simp [upd], rfl, ?_⟩
      rw [upd_upd]
      have := splice_fill vs [u] (q.length - k) .nilSlice (by simp; omega)
      rw [hvl] at this
      rw [htl, this]
      congr 4
      rw [List.length_take]; simp; omega
    · simp (disch := omega) only [go_sem, ↓reduceIte, h0, h1, h2, h13, h14, h7, hone, hone']
      have hkq : k = q.length := by omega
      subst hkq
      simp only [List.take_length, Nat.sub_self, List.replicate_zero, List.append_nil] at hrows ⊢
      rw [splice_setD vs e v (by omega)]
      refine ⟨by omega, ?_⟩
      obtain ⟨H5, g1, g2⟩ := hrows.above hv
      obtain ⟨u, H3, k1, k2, k3⟩ := g1.focus e he
      obtain ⟨H4, m1, m2⟩ := k2.drop g2
      refine DFin.sub (H' := upd H4 r (some (.cells (vs.set e v) 27))) (fun b o ho => ?_) (DFin.refl ⟨_, rfl, .inr ⟨r, vs.set e v, H4, k3 l v H4 m1, sub_none m2 hr, by simp, rfl⟩, ((hL.trans hlo).sub m2).upd (k3 l v H4 m1).looses⟩)
      simp only [upd] at ho ⊢
      split at ho
      · rename_i e1; simpa [e1] using ho
      · rename_i e1; rw [if_neg e1]; exact m2 b o ho

theorem OwnA.cell1 {H H0 : DHeap} {e : TypeId} {size n : Nat} {cs : List DVal} {v : DVal} (h : OwnA H e size n cs v H0) : v.cells = [v] ∧ v.one = true := by
  rcases h with ⟨_, _, rfl, _⟩ | ⟨_, _, _, rfl, _⟩ <;> exact ⟨rfl, rfl⟩
theorem OwnB.cell1 {H H0 : DHeap} {e : TypeId} {size n : Nat} {cs : List DVal} {v : DVal} (h : OwnB H e size n cs v H0) : v.cells = [v] ∧ v.one = true := by
  rcases h with ⟨_, _, rfl, _⟩ | ⟨_, _, _, _, _, rfl, _⟩ <;> exact ⟨rfl, rfl⟩
theorem OwnLL.nil (e e' : TypeId) (H : DHeap) : OwnLL e e' H [] .nilSlice H := .inl ⟨rfl, rfl, rfl⟩

theorem put_own (G : Nat → DVal) (q : List (List Int)) (e t : Int) (H : DHeap) (hq : q.length ≤ 1099511627776) (hl : ∀ l ∈ q, l.length ≤ 1000000000) :
    DCalls Try.prog G 31 [dIss q, dI e, dI t] H fun x H' => ∃ u, x = .ret (.tuple [u, dI (putL q e t).2]) ∧ OwnLL 3 27 H (putL q e t).1 u H' ∧ Loose H H' := by
  have hl' : ∀ l ∈ q, l.length ≤ 1099511627776 := fun l h => Nat.le_trans (hl l h) (by omega)
  refine dcalls_intro Try.func31 Try.call31 rfl (by kernel_rfl) ?_
  simp (disch := omega) only [go_sem, ↓reduceIte]
  refine (check_spec G q e t _ hq hl').mono ?_
  rintro _ H ⟨rfl, rfl⟩
  by_cases hc : chk q e t = 0
  · obtain ⟨hm, e0, e1, t0, t1⟩ := chk_zero hc
    obtain ⟨n, rfl⟩ : ∃ n : Nat, e = n := ⟨e.toNat, by omega⟩
    have hn : n < q.length := by omega
    simp (disch := omega) only [go_sem, ↓reduceIte, hc]
    refine (find_spec G q t _ hq hl').mono ?_
    rintro _ H ⟨rfl, rfl⟩
    cases hf : findP q t with
    | some p =>
      have hp : putL q n t = ([], 7) := by simp [putL, hc, hf]
      simp (disch := omega) only [go_sem, ↓reduceIte, findD, hm, hf]
      exact DFin.refl ⟨_, by rw [hp], by rw [hp]; exact .nil _ _ _, .refl _⟩
    | none =>
      have hp : putL q n t = (q.set n (q[n] ++ [t]), 0) := by simp [putL, hc, hf, hn]
      simp (disch := omega) only [go_sem, ↓reduceIte, findD, hm, hf]
      intro ra ha; dsimp only at ha
      simp (disch := omega) only [go_sem, ↓reduceIte]
      intro rb hb; dsimp only at hb
      simp only [upd_eq_none] at hb
      simp (disch := omega) only [go_sem, ↓reduceIte, hb]
      refine DCalls.fzA rb (by simp [upd, hb]) ?_
      simp (disch := omega) only [go_sem, ↓reduceIte, hb]
      refine DCalls.fzA ra ha ?_
      simp (disch := omega) only [go_sem, ↓reduceIte, hb]
      have hln := hl q[n] (List.getElem_mem hn)
      refine (concat_own G [q[n], [t]] _ (by simp) (by simp; omega)).mono ?_
      rintro _ H1 ⟨v, rfl, hv⟩
      simp (disch := omega) only [go_sem, ↓reduceIte]
      refine (with_own G q n ([q[n], [t]] : List (List Int)).flatten v H H1 hn hq hl' hv.ownV (hv.loose (looses_ints _)) hv.cell1.1 hv.cell1.2).mono ?_
      rintro _ H2 ⟨u, rfl, hu, huL⟩
      simp (disch := omega) only [go_sem, ↓reduceIte]
      exact DFin.refl ⟨u, by rw [hp], by rw [hp]; simpa using hu, huL⟩
  · have hp : putL q e t = ([], chk q e t) := by simp [putL, hc]
    simp (disch := omega) only [go_sem, ↓reduceIte, hc]
    exact DFin.refl ⟨_, by rw [hp], by rw [hp]; exact .nil _ _ _, .refl _⟩

theorem take_own (G : Nat → DVal) (q : List (List Int)) (e : Int) (H : DHeap) (hq : q.length ≤ 1099511627776) (hl : ∀ l ∈ q, l.length ≤ 1000000000) :
    DCalls Try.prog G 39 [dIss q, dI e] H fun x H' => ∃ u, x = .ret (.tuple [u, dI (takeL q e).2.1, dI (takeL q e).2.2]) ∧ OwnLL 3 27 H (takeL q e).1 u H' ∧ Loose H H' := by
  have hl' : ∀ l ∈ q, l.length ≤ 1099511627776 := fun l h => Nat.le_trans (hl l h) (by omega)
  refine dcalls_intro Try.func39 Try.call39 rfl (by kernel_rfl) ?_
  simp (disch := omega) only [go_sem, ↓reduceIte]
  refine (check_spec G q e 0 _ hq hl').mono ?_
  rintro _ H ⟨rfl, rfl⟩
  by_cases hc : chk q e 0 = 0
  · obtain ⟨hm, e0, e1, t0, t1⟩ := chk_zero hc
    obtain ⟨n, rfl⟩ : ∃ n : Nat, e = n := ⟨e.toNat, by omega⟩
    have hn : n < q.length := by omega
    have hg : q.getD n [] = q[n] := by simp [hn]
    have hln := hl q[n] (List.getElem_mem hn)
    have htk : ∀ {x}, (match q[n] with | [] => (([], 0, 6) : List (List Int) × Int × Int) | t :: l => (q.set n l, t, 0)) = x → takeL q n = x := fun h => by
      rw [takeL, if_neg (by rw [hc]; simp), Int.toNat_natCast, hg]; exact h
    cases hq2 : q[n] with
    | nil =>
      have htk := htk (x := ([], 0, 6)) (by rw [hq2])
      simp (disch := omega) only [go_sem, ↓reduceIte, hc, hq2]
      exact DFin.refl ⟨_, by rw [htk], by rw [htk]; exact .nil _ _ _, .refl _⟩
    | cons u l =>
      have htk := htk (x := (q.set n l, u, 0)) (by rw [hq2])
      rw [hq2] at hln
      simp only [List.length_cons] at hln
      simp (disch := omega) only [go_sem, ↓reduceIte, hc, hq2]
      refine dwp_draws (by kernel_rfl) (.take 0 (.take 1 (.take 2 (.take 3 (.take 6 (.take 7 (.take 8 (.go 4 [8] (.go 5 [8] (.take 9 (.take 10 (.take 11 .done)))))))))))) (by kernel_rfl) ?_
      simp (disch := omega) only [go_sem, ↓reduceIte, hq2, List.map_cons]
      refine (clone_own G l _ (by omega)).mono ?_
      rintro _ H1 ⟨v, rfl, hv⟩
      simp (disch := omega) only [go_sem, ↓reduceIte]
      refine (with_own G q n l v H H1 hn hq hl' hv.ownV (hv.loose (looses_ints _)) hv.cell1.1 hv.cell1.2).mono ?_
      rintro _ H2 ⟨u2, rfl, hu, huL⟩
      simp (disch := omega) only [go_sem, ↓reduceIte]
      exact DFin.refl ⟨u2, by rw [htk], by rw [htk]; exact hu, huL⟩
  · have htk : takeL q e = ([], 0, chk q e 0) := by simp [takeL, hc]
    simp (disch := omega) only [go_sem, ↓reduceIte, hc]
    exact DFin.refl ⟨_, by rw [htk], by rw [htk]; exact .nil _ _ _, .refl _⟩

end Go.Dl

-- THE DATA LEVEL, PART J: slices that are built up beside other memory of the call's own that nobody asks for any more.
namespace Go.Dl
open Go Go.RowKit

theorem lasts_h0 (H : DHeap) (w : World) : Lasts H w h0 w := lasts_sub (fun r o h => by cases h) w
/-- Whatever block H has, H' has. -/
def Sub (H H' : DHeap) : Prop := ∀ r o, H r = some o → H' r = some o
theorem Sub.refl (H : DHeap) : Sub H H := fun _ _ h => h
theorem Sub.trans {H H' H'' : DHeap} (h : Sub H H') (k : Sub H' H'') : Sub H H'' := fun r o x => k r o (h r o x)
theorem Sub.lo {H H' : DHeap} (h : Sub H H') {r : Nat} (hr : H' r = none) : H r = none := by
  cases e : H r with
  | none => rfl
  | some o => rw [h r o e] at hr; cases hr
theorem Sub.up {H H' : DHeap} (h : Sub H H') {r : Nat} (hr : H r = none) (x : Option DObj) : Sub H (upd H' r x) := fun b o hb => by
  have : b ≠ r := fun e => by rw [e, hr] at hb; cases hb
  simp only [upd, if_neg this]; exact h b o hb
theorem Sub.new {H H' : DHeap} (h : Sub H H') {r : Nat} (hr : H' r = none) (x : Option DObj) : Sub H (upd H' r x) := h.up (h.lo hr) x
theorem Sub.both {H H' : DHeap} (h : Sub H H') (r : Nat) (x : Option DObj) : Sub (upd H r x) (upd H' r x) := fun b o hb => by
  simp only [upd] at hb ⊢; split <;> rename_i e
  · rwa [if_pos e] at hb
  · rw [if_neg e] at hb; exact h b o hb

/-- v is nil, or a slice over a whole block of the call's own; the blocks of H are there; there may be others. -/
def OwnJ (H : DHeap) (e : TypeId) (size n : Nat) (cs : List DVal) (v : DVal) (H' : DHeap) : Prop :=
  (n = 0 ∧ cs = [] ∧ v = .nilSlice ∧ Sub H H') ∨ ∃ r, H r = none ∧ cs.length = n * size ∧ v = .oslice size r 0 n n ∧ H' r = some (.cells cs e) ∧ Sub H H'

section
variable {P : Program} {G : Nat → DVal} {H H' : DHeap} {e : TypeId} {size n : Nat} {cs : List DVal} {v : DVal}

theorem OwnJ.nil (e : TypeId) (size : Nat) (h : Sub H H') : OwnJ H e size 0 [] .nilSlice H' := .inl ⟨rfl, rfl, rfl, h⟩
theorem OwnA.j (h : OwnA H e size n cs v H') : OwnJ H e size n cs v H' := by
  rcases h with ⟨a, b, c, rfl⟩ | ⟨r, a, b, c, rfl⟩
  · exact .inl ⟨a, b, c, .refl _⟩
  · exact .inr ⟨r, a, b, c, upd_same _ _ _, (Sub.refl H).up a _⟩
theorem OwnJ.sub (h : OwnJ H e size n cs v H') : Sub H H' := by
  rcases h with ⟨_, _, _, h⟩ | ⟨_, _, _, _, _, h⟩ <;> exact h
theorem OwnJ.keep (h : OwnJ H e size n cs v H') {r : Nat} {o : DObj} (hr : H r = some o) : H' r = some o := h.sub r o hr
theorem OwnJ.more (h : OwnJ H e size n cs v H') {H2 : DHeap} (k : Sub H' H2) : OwnJ H e size n cs v H2 := by
  rcases h with ⟨a, b, c, d⟩ | ⟨r, a, b, c, d, f⟩
  · exact .inl ⟨a, b, c, d.trans k⟩
  · exact .inr ⟨r, a, b, c, k _ _ d, f.trans k⟩
theorem OwnJ.new (h : OwnJ H e size n cs v H') {r : Nat} (hr : H' r = none) (x : Option DObj) : OwnJ H e size n cs v (upd H' r x) := h.more ((Sub.refl H').up hr x)
theorem OwnJ.less (h : OwnJ H e size n cs v H') {H1 : DHeap} (k : Sub H1 H) : OwnJ H1 e size n cs v H' := by
  rcases h with ⟨a, b, c, d⟩ | ⟨r, a, b, c, d, f⟩
  · exact .inl ⟨a, b, c, k.trans d⟩
  · exact .inr ⟨r, k.lo a, b, c, d, k.trans f⟩
theorem OwnJ.frame (h : OwnJ H e size n cs v H') {r : Nat} (hr : H' r = none) (o : DObj) : OwnJ (upd H r (some o)) e size n cs v (upd H' r (some o)) := by
  rcases h with ⟨a, b, c, d⟩ | ⟨r0, a, b, c, d, f⟩
  · exact .inl ⟨a, b, c, d.both _ _⟩
  · have : r0 ≠ r := fun e => by rw [e, hr] at d; cases d
    exact .inr ⟨r0, by simp [upd, this, a], b, c, by simp [upd, this, d], f.both _ _⟩
theorem OwnJ.exact (h : OwnJ H e size n cs v H') : ∃ H1, OwnA H e size n cs v H1 ∧ Sub H1 H' := by
  rcases h with ⟨a, b, c, d⟩ | ⟨r, a, b, c, d, f⟩
  · exact ⟨H, .inl ⟨a, b, c, rfl⟩, d⟩
  · refine ⟨_, .inr ⟨r, a, b, c, rfl⟩, fun k o hk => ?_⟩
    simp only [upd] at hk
    split at hk
    · rename_i e; subst e; cases hk; exact d
    · exact f k o hk

theorem OwnJ.append {m bytes : Nat} {news : List DVal} {dst : Option Nat} {K : DK} {env : Nat → DVal} (hv : OwnJ H e size n cs v H') (hm : news.length = m * size) (hb : (n + m) * bytes ≤ 35184372088832)
    (hK : ∀ v' H2, OwnJ H e size (n + m) (cs ++ news) v' H2 → K ⟨updO env dst v', H2⟩) : dAppendTo e size bytes m news dst v K ⟨env, H'⟩ := by
  rcases hv with ⟨rfl, rfl, rfl, hs⟩ | ⟨r, hr, hl, rfl, hc, hs⟩
  · simp only [dAppendTo]
    refine ⟨fun h0 => ?_, fun h0 => ⟨by simpa using hb, fun r hr => ?_⟩⟩
    · subst h0
      have : news = [] := List.length_eq_zero_iff.1 (by omega)
      subst this
      exact hK _ _ (.inl ⟨rfl, rfl, rfl, hs⟩)
    · refine hK _ _ (.inr ⟨r, hs.lo hr, by simpa using hm, by simp, by rw [List.nil_append]; exact upd_same _ _ _, hs.new hr _⟩)
  · simp only [dAppendTo, true_and]
    rw [hc]
    by_cases h0 : m = 0
    · subst h0
      have : news = [] := List.length_eq_zero_iff.1 (by omega)
      subst this
      rw [dAppendO_in (by omega)]
      refine ⟨by simp [hl], ?_⟩
      have := hK (.oslice size r 0 (n + 0) n) H' (.inr ⟨r, hr, by simpa using hl, by simp, by simpa using hc, hs⟩)
      simp only [splice, List.length_nil, List.append_nil, Nat.add_zero, List.take_append_drop]
      rw [upd_self hc]
      simpa using this
    · rw [dAppendO_out (by omega) (by omega)]
      refine ⟨by omega, hb, fun r' hr' => ?_⟩
      dsimp only at hr' ⊢
      by_cases e1 : r' = r
      · subst e1
        refine hK _ _ (.inr ⟨r', hr, ?_, rfl, ?_, ?_⟩)
        · simp [hl, hm, Nat.add_mul]
        · rw [upd_same, List.take_of_length_le (by omega)]
        · exact (hs.up hr _).up hr _
      · have hr2 : H' r' = none := by simpa [upd, e1] using hr'
        refine hK _ _ (.inr ⟨r', hs.lo hr2, ?_, rfl, ?_, ?_⟩)
        · simp [hl, hm, Nat.add_mul]
        · rw [upd_same, List.take_of_length_le (by omega)]
        · exact (hs.up hr _).up (hs.lo hr2) _

theorem OwnJ.appendO {r m bytes : Nat} {news : List DVal} {dst : Option Nat} {K : DK} {env : Nat → DVal} (hv : OwnJ H e size n cs (.oslice size r 0 n n) H') (hm : news.length = m * size) (hb : (n + m) * bytes ≤ 35184372088832)
    (hK : ∀ v' H2, OwnJ H e size (n + m) (cs ++ news) v' H2 → K ⟨updO env dst v', H2⟩) : dAppendO e size bytes r 0 n n m news dst K ⟨env, H'⟩ (some (.cells cs e)) := by
  have h := OwnJ.append hv hm hb hK
  have hc : H' r = some (.cells cs e) := by
    rcases hv with ⟨_, _, h, _⟩ | ⟨r', _, _, h, hc, _⟩
    · cases h
    · cases h; exact hc
  simp only [dAppendTo, true_and, hc] at h
  exact h

theorem OwnJ.ghost (hv : OwnJ H e size n cs v H') : GhostE H' v H (.vslice cs n) := by
  obtain ⟨H1, h1, h2⟩ := hv.exact
  exact (GhostE.sub h2 v).trans h1.ghost
theorem OwnJ.fin {R : DEnd → DHeap → Prop} (hv : OwnJ H e size n cs v H') (h : R (.ret (.vslice cs n)) H) : DFin R v H' := .ghost hv.ghost (.refl h)
theorem DCalls.frozenJ {f : FuncId} {args : List DVal} (h : DCalls P G f args H fun x H' => ∃ v, x = .ret v ∧ OwnJ H e size n cs v H') : DCalls P G f args H (DRet (.vslice cs n) H) :=
  h.ghost fun x H' ⟨v, h1, h2⟩ => ⟨v, _, H, h1, h2.ghost, rfl, rfl⟩
theorem DCalls.preSub {f : FuncId} {args : List DVal} {R : DEnd → DHeap → Prop} (k : Sub H H') (h : DCalls P G f args H R) : DCalls P G f args H' R := DCalls.pre (GhostE.sub k _) h
/-- A slot's slice is seen as memory that lasts. -/
theorem GhostS.fzSlot {env : Nat → DVal} {k : Nat} (hv : OwnJ H e size n cs (env k) H') : GhostS G ⟨env, H'⟩ ⟨upd env k (.vslice cs n), H⟩ := fun w hH hG => by
  obtain ⟨h1, h2, h3⟩ := hv.ghost w hH
  refine ⟨h1, h2, hG.lasts (lasts_sub hv.sub w), fun i x hx => ?_⟩
  by_cases e : i = k
  · subst e; simp only [upd_same]; exact h3 x hx
  · simp only [upd, if_neg e]; exact Rel.lasts (lasts_sub hv.sub w) _ _ hx
theorem DLoop.runG {body : (DExit → DS → Prop) → DK} {Q : DExit → DS → Prop} {s : DS} {ι : Type} (I : ι → (Nat → DVal) → DHeap → Prop) (μ : ι → Nat) (i : ι) (s0 : DS) (hg : GhostS G s s0) (h0 : I i s0.env s0.heap)
    (hr : ∀ i env heap, I i env heap → body (DSeqQ (fun s1 => ∃ j s2, GhostS G s1 s2 ∧ I j s2.env s2.heap ∧ μ j < μ i) Q) ⟨env, heap⟩) : DLoop G body Q s :=
  ⟨ι, fun i s => I i s.env s.heap, μ, ⟨i, s0, hg, h0⟩, fun i s h => hr i s.env s.heap h⟩
theorem OwnJ.cell1 (h : OwnJ H e size n cs v H') : v.cells = [v] ∧ v.one = true := by
  rcases h with ⟨_, _, rfl, _⟩ | ⟨_, _, _, rfl, _⟩ <;> exact ⟨rfl, rfl⟩
end
end Go.Dl

-- Own rows are looked at: Same is lent a [][]int of the call's own.
namespace Go.Dl
open Go Go.Proofs
set_option maxRecDepth 10000

theorem OwnV.sub {e : TypeId} {H H1 : DHeap} {l : List Int} {v : DVal} (h : OwnV e H l v H1) : ∀ r o, H r = some o → H1 r = some o := fun _ _ hr => h.keep hr
theorem OwnRows.sub {e : TypeId} {H : DHeap} : ∀ {q : List (List Int)} {vs : List DVal} {H1 : DHeap}, OwnRows e H q vs H1 → ∀ r o, H r = some o → H1 r = some o
  | [], _, _, h, r, o, hr => by rw [h.2]; exact hr
  | l :: q, vs, H1, h, r, o, hr => by
    obtain ⟨v, vs', H2, rfl, h1, h2⟩ := h
    exact h2.sub r o (h1.sub r o hr)
theorem OwnLL.sub {e e' : TypeId} {H H1 : DHeap} {q : List (List Int)} {v : DVal} (h : OwnLL e e' H q v H1) : ∀ r o, H r = some o → H1 r = some o := by
  rcases h with ⟨rfl, rfl, rfl⟩ | ⟨ro, vs, H2, h1, h2, rfl, rfl⟩
  · exact fun _ _ h => h
  · intro r o hr
    have := h1.sub r o hr
    have hne : r ≠ ro := fun e => by rw [e, h2] at this; cases this
    simp [upd, hne, this]


theorem OwnRows.view {e : TypeId} {H : DHeap} {w : World} : ∀ {q : List (List Int)} {vs : List DVal} {H1 : DHeap}, OwnRows e H q vs H1 → SimHeap w H1 → ∀ xs, RelL w H1 vs xs → RelL w h0 (q.map dIs) xs
  | [], _, _, h, _, xs, hx => by
    obtain ⟨rfl, rfl⟩ := h
    simpa [RelL] using hx
  | l :: q, vs, H1, h, hw, xs, hx => by
    obtain ⟨v, vs', H2, rfl, h1, h2⟩ := h
    simp only [RelL, List.map_cons] at hx ⊢
    obtain ⟨y, ys, rfl, k1, k2⟩ := hx
    obtain ⟨g1, g2, g3⟩ := h2.ghost w hw
    exact ⟨y, ys, rfl, Rel.lasts (lasts_h0 _ w) _ _ (g3 y k1), h1.view g1 ys (RelL.lasts (lasts_sub h2.sub w) _ _ k2)⟩

/-- Own rows seen as memory that lasts. -/
theorem OwnLL.view {e e' : TypeId} {H H1 : DHeap} {q : List (List Int)} {v : DVal} (h : OwnLL e e' H q v H1) {w : World} (hw : SimHeap w H1) (x : Value) (hx : Rel w H1 v x) : Rel w h0 (dIss q) x := by
  rcases h with ⟨rfl, rfl, rfl⟩ | ⟨ro, vs, H2, h1, h2, rfl, rfl⟩
  · exact Rel.lasts (lasts_h0 _ w) _ _ (DLe.nil _ _ _ hx)
  · have g := GhostE.fz (v := .oslice 1 ro 0 q.length q.length) (upd_same H2 ro (some (.cells vs e')))
    rw [upd_none_self h2] at g
    simp only [Dl.fz, if_pos, List.drop_zero, Nat.mul_one] at g
    rw [← h1.len, List.take_length] at g
    obtain ⟨g1, _, g3⟩ := g w hw
    have hy := g3 x (by rw [h1.len]; exact hx)
    simp only [Rel, dIss] at hy ⊢
    obtain ⟨a, cap, rfl, hle, k⟩ := hy
    refine ⟨a, cap, by rw [h1.len], by rw [← h1.len]; exact hle, ?_⟩
    rcases k with rfl | ⟨b, o, ys, rfl, k1, k2⟩
    · refine .inl ?_
      have := h1.len
      cases q with
      | nil => rfl
      | cons l q => simp at this
    · exact .inr ⟨b, o, ys, rfl, k1.lasts (lasts_h0 _ w), h1.view g1 ys k2⟩

/-- v, in H1, is seen as q. -/
def Views (H1 : DHeap) (v : DVal) (q : List (List Int)) : Prop := ∀ w x, SimHeap w H1 → Rel w H1 v x → Rel w h0 (dIss q) x
theorem OwnLL.views {e e' : TypeId} {H H1 : DHeap} {q : List (List Int)} {v : DVal} (h : OwnLL e e' H q v H1) : Views H1 v q := fun _ x hw hx => h.view hw x hx
theorem Views.up {H1 H2 : DHeap} {v : DVal} {q : List (List Int)} (h : Views H1 v q) (hs : ∀ r o, H1 r = some o → H2 r = some o) : Views H2 v q := fun w x hw hx =>
  h w x (fun r o ho => (hw r o (hs r o ho)).lasts (lasts_sub hs w)) (Rel.lasts (lasts_sub hs w) _ _ hx)
theorem Views.frozen (H1 : DHeap) (q : List (List Int)) : Views H1 (dIss q) q := fun w _ _ hx => Rel.lasts (lasts_h0 _ w) _ _ hx

theorem same_own (G : Nat → DVal) (hG : ∀ g, ∃ r o, G g = .optr r o) (u v : DVal) (a b : List (List Int)) (H : DHeap) (hu : Views H u a) (hv : Views H v b) (ha : a.length ≤ 1099511627776) (hb : b.length ≤ 1099511627776) (hal : ∀ l ∈ a, l.length ≤ 1099511627776) (hbl : ∀ l ∈ b, l.length ≤ 1099511627776) :
    DCalls Try.prog G 23 [u, v] H (DRet (.bool (decide (a = b))) H) := by
  have h := DCalls.borrow (args := [u, v]) (H := H) (same_spec G a b h0 ha hb hal hbl) (fun w vs hw hx => ?_) (fun g => .inr (.inl (hG g))) (fun e H2 h => ⟨_, h.1, rfl⟩)
  · exact h.mono fun e H2 ⟨⟨H3, k1, k2⟩, k3⟩ => ⟨k1, k3⟩
  · simp only [RelL] at hx ⊢
    obtain ⟨y, ys, rfl, k1, z, zs, rfl, k2, k3⟩ := hx
    exact ⟨y, _, rfl, hu w y hw k1, z, zs, rfl, hv w z hw k2, k3⟩
end Go.Dl

-- The law's fixed examples (chapter 31).
namespace Go.Dl
open Go Go.Proofs
set_option maxRecDepth 10000

end Go.Dl

-- The law EntryBack: what the call computes.
namespace Go.Dl
open Go Go.Proofs
set_option maxRecDepth 10000

end Go.Dl

-- The law EntryMoves: what the call computes.
namespace Go.Dl
open Go Go.Proofs
set_option maxRecDepth 10000

/-- v is a list of ints of the call's own (none of it in H): its block is in Hx. -/
def VOk (e : TypeId) (H Hx : DHeap) (v : DVal) : Prop := v = .nilSlice ∨ ∃ r off len lo cs, H r = none ∧ Hx r = some (.cells cs e) ∧ v = .oslice 1 r off len lo ∧ off + len ≤ cs.length ∧ len ≤ 1099511627776
def LOk (e e' : TypeId) (H Hx : DHeap) (u : DVal) : Prop := u = .nilSlice ∨ ∃ ro vs, u = .oslice 1 ro 0 vs.length vs.length ∧ Hx ro = some (.cells vs e') ∧ (∀ v ∈ vs, VOk e H Hx v ∧ v.one = true ∧ v.cells = [v]) ∧ vs.length ≤ 1099511627776
theorem VOk.up {e : TypeId} {H Hx Hy : DHeap} {v : DVal} (h : VOk e H Hx v) (hs : ∀ r o, Hx r = some o → Hy r = some o) : VOk e H Hy v := by
  rcases h with h | ⟨r, off, len, lo, cs, h1, h2, h3, h4⟩
  · exact .inl h
  · exact .inr ⟨r, off, len, lo, cs, h1, hs _ _ h2, h3, h4⟩
theorem VOk.down {e : TypeId} {H H0 Hx : DHeap} {v : DVal} (h : VOk e H Hx v) (hs : ∀ r o, H0 r = some o → H r = some o) : VOk e H0 Hx v := by
  rcases h with h | ⟨r, off, len, lo, cs, h1, h2, h3, h4⟩
  · exact .inl h
  · exact .inr ⟨r, off, len, lo, cs, sub_none hs h1, h2, h3, h4⟩
theorem LOk.up {e e' : TypeId} {H Hx Hy : DHeap} {v : DVal} (h : LOk e e' H Hx v) (hs : ∀ r o, Hx r = some o → Hy r = some o) : LOk e e' H Hy v := by
  rcases h with h | ⟨r, vs, h1, h2, h3, h4⟩
  · exact .inl h
  · exact .inr ⟨r, vs, h1, hs _ _ h2, fun v hv => ⟨(h3 v hv).1.up hs, (h3 v hv).2⟩, h4⟩
theorem LOk.down {e e' : TypeId} {H H0 Hx : DHeap} {v : DVal} (h : LOk e e' H Hx v) (hs : ∀ r o, H0 r = some o → H r = some o) : LOk e e' H0 Hx v := by
  rcases h with h | ⟨r, vs, h1, h2, h3, h4⟩
  · exact .inl h
  · exact .inr ⟨r, vs, h1, h2, fun v hv => ⟨(h3 v hv).1.down hs, (h3 v hv).2⟩, h4⟩
theorem OwnRows.vok {e : TypeId} {H : DHeap} : ∀ {q : List (List Int)} {vs : List DVal} {H1 : DHeap}, OwnRows e H q vs H1 → (∀ l ∈ q, l.length ≤ 1099511627776) → ∀ v ∈ vs, VOk e H H1 v ∧ v.one = true ∧ v.cells = [v]
  | [], _, _, h, _, v, hv => by rw [h.1] at hv; cases hv
  | l :: q, vs, H1, h, hb, v, hv => by
    obtain ⟨u, vs', H2, rfl, h1, h2⟩ := h
    rcases List.mem_cons.1 hv with rfl | hv
    · rcases h2 with ⟨_, rfl, _⟩ | ⟨r, pre, lo, rest, hr, rfl, hlo, rfl⟩
      · exact ⟨.inl rfl, rfl, rfl⟩
      · exact ⟨.inr ⟨r, _, _, _, _, sub_none h1.sub hr, upd_same _ _ _, rfl, by simp, hb _ (by simp)⟩, rfl, rfl⟩
    · have := h1.vok (fun l hl => hb l (by simp [hl])) v hv
      exact ⟨this.1.up h2.sub, this.2⟩
theorem OwnLL.lok {e e' : TypeId} {H H1 : DHeap} {q : List (List Int)} {v : DVal} (h : OwnLL e e' H q v H1) (hq : q.length ≤ 1099511627776) (hb : ∀ l ∈ q, l.length ≤ 1099511627776) : LOk e e' H H1 v := by
  rcases h with ⟨rfl, rfl, rfl⟩ | ⟨ro, vs, H2, h1, h2, rfl, rfl⟩
  · exact .inl rfl
  · refine .inr ⟨ro, vs, by rw [h1.len], upd_same _ _ _, fun v hv => ⟨(h1.vok hb v hv).1.up fun r o hr => ?_, (h1.vok hb v hv).2⟩, by rw [h1.len]; exact hq⟩
    have hne : r ≠ ro := none_ne h2 hr
    simp [upd, hne, hr]
theorem OwnLL.cell1 {e e' : TypeId} {H H1 : DHeap} {q : List (List Int)} {v : DVal} (h : OwnLL e e' H q v H1) : v.cells = [v] ∧ v.one = true := by
  rcases h with ⟨rfl, rfl, rfl⟩ | ⟨ro, vs, H2, h1, h2, rfl, rfl⟩ <;> exact ⟨rfl, rfl⟩

/-- heap is Hx, but for the cells of some int blocks that are not in H. -/
def Scr (e : TypeId) (H Hx heap : DHeap) : Prop := ∀ r, heap r = Hx r ∨ (H r = none ∧ ∃ cs cs', Hx r = some (.cells cs e) ∧ heap r = some (.cells cs' e) ∧ cs'.length = cs.length)
theorem Scr.refl (e : TypeId) (H Hx : DHeap) : Scr e H Hx Hx := fun _ => .inl rfl
theorem Scr.other {e e' : TypeId} {H Hx heap : DHeap} (h : Scr e H Hx heap) (hne : e' ≠ e) {r : Nat} {vs : List DVal} (hr : Hx r = some (.cells vs e')) : heap r = some (.cells vs e') := by
  rcases h r with h | ⟨_, cs, cs', h1, _⟩
  · rw [h, hr]
  · rw [hr] at h1; cases h1; exact absurd rfl hne
theorem Scr.row {e : TypeId} {H Hx heap : DHeap} (h : Scr e H Hx heap) {r : Nat} {cs : List DVal} (hr : Hx r = some (.cells cs e)) : ∃ cs', heap r = some (.cells cs' e) ∧ cs'.length = cs.length := by
  rcases h r with h | ⟨_, cs1, cs', h1, h2, h3⟩
  · exact ⟨cs, by rw [h, hr], rfl⟩
  · rw [hr] at h1; cases h1; exact ⟨cs', h2, h3⟩
theorem Scr.set {e : TypeId} {H Hx heap : DHeap} (h : Scr e H Hx heap) {r : Nat} {cs cs' : List DVal} (hn : H r = none) (hr : Hx r = some (.cells cs e)) (hl : cs'.length = cs.length) : Scr e H Hx (upd heap r (some (.cells cs' e))) := fun b => by
  by_cases eb : b = r
  · subst eb; exact .inr ⟨hn, cs, cs', hr, by simp [upd], hl⟩
  · simp only [upd, if_neg eb]; exact h b
theorem Scr.sub {e : TypeId} {H Hx heap : DHeap} (h : Scr e H Hx heap) (hs : ∀ r o, H r = some o → Hx r = some o) : ∀ r o, H r = some o → heap r = some o := fun r o hr => by
  rcases h r with h | ⟨hn, _⟩
  · rw [h]; exact hs r o hr
  · rw [hn] at hr; cases hr

theorem getD_len {q : List (List Int)} {n B : Nat} (hl : ∀ l ∈ q, l.length ≤ B) : (q.getD n []).length ≤ B := by
  by_cases h : n < q.length
  · rw [List.getD_eq_getElem?_getD, List.getElem?_eq_getElem h]
    exact hl _ (List.getElem_mem h)
  · rw [List.getD_eq_getElem?_getD, List.getElem?_eq_none (by omega)]
    simp
theorem set_bound {q : List (List Int)} {n B : Nat} {m : List Int} (hl : ∀ l ∈ q, l.length ≤ B) (hm : m.length ≤ B) : ∀ l ∈ q.set n m, l.length ≤ B := fun l h => by
  rcases List.mem_or_eq_of_mem_set h with h | rfl
  · exact hl l h
  · exact hm
theorem putL_bound {q : List (List Int)} {e t : Int} {B : Nat} (hl : ∀ l ∈ q, l.length ≤ B) : (∀ l ∈ (putL q e t).1, l.length ≤ B + 1) ∧ (putL q e t).1.length ≤ q.length := by
  unfold putL
  have := getD_len (n := e.toNat) hl
  split
  · simp
  · split
    · simp
    · exact ⟨set_bound (fun l h => Nat.le_succ_of_le (hl l h)) (by simpa using this), by simp⟩
theorem takeL_bound {q : List (List Int)} {e : Int} {B : Nat} (hl : ∀ l ∈ q, l.length ≤ B) : (∀ l ∈ (takeL q e).1, l.length ≤ B) ∧ (takeL q e).1.length ≤ q.length := by
  unfold takeL
  have := getD_len (n := e.toNat) hl
  split
  · simp
  · split
    · simp
    · rename_i u l hg
      rw [hg] at this
      exact ⟨set_bound hl (by simp at this; omega), by simp⟩
theorem removeL_bound {q : List (List Int)} {t : Int} {B : Nat} (hl : ∀ l ∈ q, l.length ≤ B) : (∀ l ∈ (removeL q t).1, l.length ≤ B) ∧ (removeL q t).1.length ≤ q.length := by
  unfold removeL
  split
  · simp
  · split
    · simp
    · split
      · simp
      · rename_i p hp
        refine ⟨set_bound hl ?_, by simp⟩
        exact Nat.le_trans (List.length_eraseIdx_le _ _) (getD_len hl)

theorem setI_neg (q : List (List Int)) (l : List Int) : setI q (-1) l = q := by
  simp [setI]

end Go.Dl

-- A callee's own result, though own memory was lent to it.
namespace Go.Dl
open Go Go.Proofs
set_option maxRecDepth 10000

theorem DCalls.borrowA {P : Program} {G : Nat → DVal} {f : FuncId} {args args' : List DVal} {H : DHeap} {e : TypeId} {n : Nat} {cs : List DVal} (h : DCalls P G f args' h0 fun x H' => ∃ v, x = .ret v ∧ OwnA h0 e 1 n cs v H')
    (hb : ∀ w vs, SimHeap w H → RelL w H args vs → RelL w h0 args' vs) (hG : ∀ g, ∃ r o, G g = .optr r o) (hp : plain.plains cs = true) : DCalls P G f args H (fun x H' => ∃ v, x = .ret v ∧ OwnA H e 1 n cs v H') := by
  refine ⟨h.1, fun vs w hv hH hg => ?_⟩
  have hg0 : GOk G w h0 := ⟨fun g => by
    obtain ⟨r, o, k⟩ := hG g
    have := hg.rel g
    rw [k] at this ⊢
    simpa [Rel] using this, hg.exact⟩
  refine (h.2 vs w (hb w vs hH hv) (fun r o hr => by cases hr) hg0).mono fun x w' ⟨e', H', ⟨v, hv1, hv2⟩, k1, k2, k3⟩ => ?_
  subst hv1
  rcases hv2 with ⟨rfl, rfl, rfl, rfl⟩ | ⟨r, hr, hl, rfl, rfl⟩
  · have hE : Ext H w H w' := ⟨k3.os, k3.tape, k3.output, k3.size, fun b hb _ => k3.block b hb rfl, fun b hb => .inl hb, k3.keep, fun a ha _ => k3.fz a ha rfl⟩
    refine ⟨.ret .nilSlice, H, ⟨.nilSlice, rfl, .inl ⟨rfl, rfl, rfl, rfl⟩⟩, ?_, ?_, hE⟩
    · cases k1 with
      | ret d x hx => exact .ret _ _ (plain_rel _ _ rfl hx)
    · intro r o ho
      rw [k3.block r (hH.lt (by simp [ho])) rfl]
      exact (hH r o ho).lasts hE.lasts
  · have hsz : w.heap.size ≤ r := by
      rcases k3.own r (by simp [upd]) with h | h
      · exact absurd rfl h
      · exact h
    have hrn : H r = none := by
      cases e1 : H r with
      | none => rfl
      | some o => have := hH.lt (r := r) (by simp [e1]); omega
    have hE : Ext H w (upd H r (some (.cells cs e))) w' := ⟨k3.os, k3.tape, k3.output, k3.size, fun b hb _ => k3.block b hb rfl, fun b hb => by
      by_cases e1 : b = r
      · subst e1; exact .inr hsz
      · simp only [upd, if_neg e1] at hb; exact .inl hb, k3.keep, fun a ha _ => k3.fz a ha rfl⟩
    refine ⟨.ret (.oslice 1 r 0 n n), _, ⟨_, rfl, .inr ⟨r, hrn, hl, rfl, rfl⟩⟩, ?_, ?_, hE⟩
    · cases k1 with
      | ret d x hx => exact .ret _ _ (by simpa [Rel] using hx)
    · intro b o ho
      by_cases e1 : b = r
      · subst e1
        simp only [upd, if_pos] at ho; cases ho
        obtain ⟨xs, c, fz', h1, h2, h3, h4⟩ := k2 b _ (upd_same _ _ _)
        exact ⟨xs, c, fz', h1, h2, plains_rel _ _ hp h3, h4⟩
      · simp only [upd, if_neg e1] at ho
        rw [k3.block b (hH.lt (by simp [ho])) rfl]
        exact (hH b o ho).lasts hE.lasts

/-- v, in H1, is seen as the ints l. -/
def ViewsR (H1 : DHeap) (v : DVal) (l : List Int) : Prop := ∀ w x, SimHeap w H1 → Rel w H1 v x → Rel w h0 (dIs l) x
theorem OwnV.viewsR {e : TypeId} {H H1 : DHeap} {l : List Int} {v : DVal} (h : OwnV e H l v H1) : ViewsR H1 v l := fun w x hw hx => Rel.lasts (lasts_h0 _ w) _ _ ((h.ghost w hw).2.2 x hx)
theorem ViewsR.up {H1 H2 : DHeap} {v : DVal} {l : List Int} (h : ViewsR H1 v l) (hs : ∀ r o, H1 r = some o → H2 r = some o) : ViewsR H2 v l := fun w x hw hx =>
  h w x (fun r o ho => (hw r o (hs r o ho)).lasts (lasts_sub hs w)) (Rel.lasts (lasts_sub hs w) _ _ hx)
theorem plains_ints (l : List Int) : plain.plains (l.map dI) = true := by
  induction l with
  | nil => rfl
  | cons x l ih => simp [plain.plains, ih, plain, dI]
theorem clone_lent (G : Nat → DVal) (hG : ∀ g, ∃ r o, G g = .optr r o) (l : List Int) (v : DVal) (H : DHeap) (hv : ViewsR H v l) (hl : l.length ≤ 1099511627776) :
    DCalls Try.prog G 16 [v] H fun x H' => ∃ u, x = .ret u ∧ OwnA H 3 1 l.length (l.map dI) u H' :=
  (clone_own G l h0 hl).borrowA (fun w vs hw hx => by
    simp only [RelL] at hx ⊢
    obtain ⟨y, ys, rfl, k1, k2⟩ := hx
    exact ⟨y, ys, rfl, hv w y hw k1, k2⟩) hG (plains_ints l)
end Go.Dl

-- slices.IndexFunc and DeleteFunc on a slice of the call's own, with the closure of EntryOrder.
namespace Go.Dl
open Go Go.Proofs
set_option maxRecDepth 10000

theorem indexFunc_raw (G : Nat → DVal) (l : List Int) (k : Nat) (cap : List DVal) (p : Int → Bool) (H : DHeap) (hl : l.length ≤ 1099511627776) (r : Nat) (hr : H r = some (.cells (l.map dI) 3)) (hf : ∀ x ∈ l, DCalls Try.prog G k (dI x :: cap) H (DRet (.bool (p x)) H)) :
    DCalls Try.prog G 36 [.oslice 1 r 0 l.length l.length, .func (.func k) [] cap] H (DRet (dI (idxF l p)) H) := by
  refine dcalls_intro Try.func36 Try.call36 rfl (by kernel_rfl) ?_
  simp (disch := omega) only [go_sem, ↓reduceIte]
  refine DLoop.run (fun (i : Nat) env heap => heap = H ∧ env 0 = .oslice 1 r 0 l.length l.length ∧ env 1 = .func (.func k) [] cap ∧ env 7 = dI l.length ∧ env 8 = dI i ∧ i ≤ l.length ∧ ∀ x ∈ l.take i, p x = false) (fun i => l.length - i) 0 ?_ ?_
  · simp (disch := omega) only [go_sem, ↓reduceIte]
    simp
  · rintro i env heap ⟨rfl, h0, h1, h7, h8, hi, hn⟩
    by_cases hlt : i < l.length
    · simp (disch := omega) only [go_sem, ↓reduceIte, h0, h1, h7, h8, hr]
      refine (hf _ (List.getElem_mem hlt)).mono ?_
      rintro e H1 ⟨rfl, rfl⟩
      simp (disch := omega) only [go_sem, ↓reduceIte]
      cases hx : p l[i] with
      | true =>
        simp (disch := omega) only [go_sem, ↓reduceIte, h0, h1, h7, h8, hr]
        refine DFin.refl ⟨?_, rfl⟩
        have : l.findIdx? p = some i := by
          rw [List.findIdx?_eq_some_iff_getElem]
          refine ⟨hlt, hx, fun j hj => ?_⟩
          have := hn (l[j]) (List.mem_take_iff_getElem.2 ⟨j, by omega, rfl⟩)
          simp [this]
        rw [idxF, this]
      | false =>
        simp (disch := omega) only [go_sem, ↓reduceIte, h0, h1, h7, h8, hr]
        refine ⟨i + 1, _, GhostS.refl _, ?_, by omega⟩
        simp (disch := omega) only [go_sem, ↓reduceIte, h0, h1, h7, h8, hr]
        (repeat' apply And.intro) <;> (try first | rfl | assumption | omega)
        rw [List.take_add_one, List.getElem?_eq_getElem hlt]
        intro x hx'
        rcases List.mem_append.1 hx' with h | h
        · exact hn x h
        · simp at h; subst h; exact hx
    · simp (disch := omega) only [go_sem, ↓reduceIte, h0, h1, h7, h8, hr]
      refine DFin.refl ⟨?_, rfl⟩
      have hi : i = l.length := by omega
      subst hi
      rw [List.take_length] at hn
      have : l.findIdx? p = none := by
        rw [List.findIdx?_eq_none_iff]
        intro x hx; simpa using hn x hx
      rw [idxF, this]
end Go.Dl

-- slices.DeleteFunc on a slice of the call's own (first try; see NOTES).
namespace Go.Dl
open Go Go.Proofs
set_option maxRecDepth 10000

/-- One round: what is kept moves down. -/
theorem keep_step (kept mid : List Int) (x : Int) (rest : List Int) : ∃ mid', mid'.length = mid.length ∧
    splice ((kept ++ mid ++ x :: rest).map dI) kept.length [dI x] = ((kept ++ [x]) ++ mid' ++ rest).map dI := by
  have hs := splice_setD ((kept ++ mid ++ x :: rest).map dI) kept.length (dI x) (by simp; omega)
  rw [hs]
  cases mid with
  | nil => exact ⟨[], rfl, by simp⟩
  | cons m mid => exact ⟨mid ++ [x], by simp, by simp [List.set_append]⟩

/-- What was kept of the first j, something, and the rest. -/
def KeptAt (H : DHeap) (r : Nat) (l : List Int) (p : Int → Bool) (j : Nat) (heap : DHeap) : Prop :=
  ∃ mid : List Int, ((l.take j).filter fun x => !p x).length + mid.length = j ∧ heap = upd H r (some (.cells ((((l.take j).filter fun x => !p x) ++ mid ++ l.drop j).map dI) 3))

theorem deleteFunc_raw (G : Nat → DVal) (l : List Int) (k : Nat) (cap : List DVal) (p : Int → Bool) (r : Nat) (H : DHeap) (hr : H r = none) (hl : l.length ≤ 1099511627776)
    (hf : ∀ x ∈ l, ∀ cs, DCalls Try.prog G k (dI x :: cap) (upd H r (some (.cells cs 3))) (DRet (.bool (p x)) (upd H r (some (.cells cs 3))))) :
    DCalls Try.prog G 24 [.oslice 1 r 0 l.length l.length, .func (.func k) [] cap] (upd H r (some (.cells (l.map dI) 3))) fun x H' => ∃ v, x = .ret v ∧ OwnV 3 H (l.filter fun x => !p x) v H' := by
  refine dcalls_intro Try.func24 Try.call24 rfl (by kernel_rfl) ?_
  simp (disch := omega) only [go_sem, ↓reduceIte]
  refine (indexFunc_raw G l k cap p _ hl r (upd_same _ _ _) fun x hx => hf x hx _).mono ?_
  rintro _ H1 ⟨rfl, rfl⟩
  cases hfi : l.findIdx? p with
  | none =>
    have hk : idxF l p = -1 := by rw [idxF, hfi]
    rw [hk]
    simp (disch := omega) only [go_sem, ↓reduceIte]
    have hall : l.filter (fun x => !p x) = l := by
      rw [List.filter_eq_self]
      intro x hx
      have := List.findIdx?_eq_none_iff.1 hfi x hx
      simp [this]
    refine DFin.refl ⟨_, rfl, ?_⟩
    rw [hall]
    exact .inr ⟨r, [], l.length, [], hr, rfl, by simp, by simp⟩
  | some i =>
    have hk : idxF l p = (i : Int) := by rw [idxF, hfi]
    have hi : i < l.length := by
      have := List.findIdx?_eq_some_iff_getElem.1 hfi
      exact this.1
    rw [hk]
    have hne : ¬ ((i : Int) = -1) := by omega
    simp (disch := omega) only [go_sem, ↓reduceIte, hne]
    have htake : ((l.take (i + 1)).filter fun x => !p x) = l.take i := by
      obtain ⟨_, h1, h2⟩ := List.findIdx?_eq_some_iff_getElem.1 hfi
      rw [List.take_add_one, List.getElem?_eq_getElem hi, List.filter_append]
      simp only [Option.toList, List.filter_cons, h1, Bool.not_true, List.filter_nil, if_neg Bool.false_ne_true, List.append_nil]
      rw [List.filter_eq_self]
      intro x hx
      obtain ⟨j, hj, rfl⟩ := List.mem_take_iff_getElem.1 hx
      simpa using h2 j (by omega)
    obtain ⟨I, hI⟩ : ∃ I : Nat → (Nat → DVal) → DHeap → Prop, ∀ j env heap, I j env heap ↔ (j ≤ l.length ∧ env 0 = .oslice 1 r 0 l.length l.length ∧ env 1 = .func (.func k) [] cap ∧ env 5 = dI (l.take j |>.filter fun x => !p x).length ∧ env 6 = dI j ∧ KeptAt H r l p j heap) := ⟨_, fun _ _ _ => Iff.rfl⟩
    refine DLoop.run I (fun j => l.length - j) (i + 1) ((hI _ _ _).2 ?_) ?_
    · simp (disch := omega) only [go_sem, ↓reduceIte]
      (repeat' apply And.intro) <;> (try first | rfl | assumption | omega)
      · rw [htake]
        simp [dI]
        omega
      · refine ⟨[l[i]], by rw [htake]; simp; omega, ?_⟩
        rw [htake]
        simp
    · intro j env heap hj
      obtain ⟨hjl, g0, g1, g5, g6, mid, hmid, rfl⟩ := (hI _ _ _).1 hj
      by_cases hlt : j < l.length
      · have hxj : ((((l.take j).filter fun x => !p x) ++ mid ++ l.drop j).map dI)[j]? = some (dI l[j]) := by
          rw [List.getElem?_map, List.getElem?_append_right (by rw [List.length_append]; omega), List.length_append, hmid, Nat.sub_self, List.getElem?_drop, Nat.add_zero, List.getElem?_eq_getElem hlt]
          rfl
        simp (disch := omega) only [go_sem, ↓reduceIte, g0, g1, g5, g6, hxj]
        refine (hf l[j] (List.getElem_mem hlt) _).mono ?_
        rintro _ H1 ⟨rfl, rfl⟩
        cases hpx : p l[j] with
        | true =>
          simp (disch := omega) only [go_sem, ↓reduceIte, g0, g1, g5, g6, hpx]
          have ht : ((l.take (j + 1)).filter fun x => !p x) = (l.take j).filter fun x => !p x := by
            rw [List.take_add_one, List.getElem?_eq_getElem hlt, List.filter_append]
            simp [hpx]
          refine ⟨j + 1, _, GhostS.refl _, (hI _ _ _).2 ?_, by omega⟩
          simp (disch := omega) only [go_sem, ↓reduceIte, g0, g1, g5, g6, ht]
          (repeat' apply And.intro) <;> (try first | rfl | assumption | omega)
          refine ⟨mid ++ [l[j]], by rw [ht, List.length_append, ← Nat.add_assoc, hmid]; rfl, ?_⟩
          rw [ht, List.drop_eq_getElem_cons hlt]
          simp
        | false =>
          simp (disch := omega) only [go_sem, ↓reduceIte, g0, g1, g5, g6, hpx]
          have ht : ((l.take (j + 1)).filter fun x => !p x) = ((l.take j).filter fun x => !p x) ++ [l[j]] := by
            rw [List.take_add_one, List.getElem?_eq_getElem hlt, List.filter_append]
            simp [hpx]
          refine ⟨by simp; omega, ?_⟩
          refine ⟨j + 1, _, GhostS.refl _, (hI _ _ _).2 ?_, by omega⟩
          simp (disch := omega) only [go_sem, ↓reduceIte, g0, g1, g5, g6, ht]
          (repeat' apply And.intro) <;> (try first | rfl | assumption | omega)
          · simp [dI]
          · obtain ⟨mid', hm', hs⟩ := keep_step ((l.take j).filter fun x => !p x) mid l[j] (l.drop (j + 1))
            refine ⟨mid', by rw [ht, List.length_append, hm']; simp; omega, ?_⟩
            rw [ht, List.drop_eq_getElem_cons hlt]
            exact congrArg (fun c => upd H r (some (.cells c 3))) hs
      · simp (disch := omega) only [go_sem, ↓reduceIte, g0, g1, g5, g6]
        have hjl' : j = l.length := by omega
        subst hjl'
        rw [List.take_length] at hmid ⊢
        have hlen : ((l.filter fun x => !p x) ++ mid ++ l.drop l.length).length = l.length := by simp; omega
        have hle : (l.filter fun x => !p x).length ≤ l.length := List.length_filter_le _ _
        refine ⟨by rw [hlen]; omega, DFin.refl ⟨_, rfl, .inr ⟨r, [], l.length, List.replicate (l.length - (l.filter fun x => !p x).length) (dI 0), hr, by simp, by simp; omega, ?_⟩⟩⟩
        rw [List.drop_length, List.append_nil, List.map_append]
        have hml : mid.length = l.length - (l.filter fun x => !p x).length := by omega
        congr 4
        rw [← hml]
        unfold splice
        simp [dI]
end Go.Dl

-- EntryOrder: plain laws about queues, and about the map of where tasks are.
namespace Go.Dl
open Go Go.Proofs
set_option maxRecDepth 10000

/-- The map's entries. -/
def em (l : List (Int × Nat)) : List (DVal × DVal) := l.map fun p => (dI p.1, dI p.2)
theorem dKey_int (a b : Int) : dKey (dI a) (dI b) = some (decide (a = b)) := by simp [dKey, dI]
theorem dFind_none {t : Int} : ∀ {l : List (Int × Nat)}, t ∉ l.map (·.1) → ∀ n, dFind (dI t) (em l) n = some none
  | [], _, _ => rfl
  | p :: l, h, n => by
    simp only [List.map_cons, List.mem_cons, not_or] at h
    have ih := dFind_none h.2 (n + 1)
    simp only [em] at ih
    simp only [em, List.map_cons, dFind, dKey_int, ih, decide_eq_false h.1, dFindS]
theorem dFind_at {t : Int} {e : Nat} : ∀ {l : List (Int × Nat)} {i : Nat}, l[i]? = some (t, e) → (l.map (·.1)).Nodup → ∀ n, dFind (dI t) (em l) n = some (some (n + i))
  | [], i, h, _, _ => by simp at h
  | p :: l, 0, h, hn, n => by
    simp only [List.getElem?_cons_zero, Option.some.injEq] at h
    subst h
    simp [em, dFind, dKey_int, dFindS]
  | p :: l, i + 1, h, hn, n => by
    simp only [List.getElem?_cons_succ] at h
    simp only [List.map_cons, List.nodup_cons] at hn
    have hne : t ≠ p.1 := fun e1 => hn.1 (by rw [← e1]; exact List.mem_map.2 ⟨_, List.mem_of_getElem? h, rfl⟩)
    have ih := dFind_at h hn.2 (n + 1)
    simp only [em] at ih
    simp only [em, List.map_cons, dFind, dKey_int, ih, decide_eq_false hne, dFindS]
    congr 2; omega

theorem em_get {l : List (Int × Nat)} {i : Nat} {p : Int × Nat} (h : l[i]? = some p) : (em l)[i]? = some (dI p.1, dI p.2) := by simp [em, h]
theorem em_add (l : List (Int × Nat)) (t : Int) (e : Nat) : em l ++ [(dI t, dI e)] = em (l ++ [(t, e)]) := by simp [em]
theorem em_del (l : List (Int × Nat)) (i : Nat) : (em l).eraseIdx i = em (l.eraseIdx i) := by
  induction l generalizing i with
  | nil => simp [em]
  | cons p l ih => cases i with
    | zero => rfl
    | succ i => simp only [em] at ih ⊢; simp [ih]

theorem nodup_inj {α : Type} {l : List α} (h : l.Nodup) {i j : Nat} (hi : i < l.length) (hj : j < l.length) (e : l[i] = l[j]) : i = j := by
  have hp : l.Pairwise (· ≠ ·) := h
  rw [List.pairwise_iff_getElem] at hp
  rcases Nat.lt_trichotomy i j with h1 | h1 | h1
  · exact (hp i j hi hj h1 e).elim
  · exact h1
  · exact (hp j i hj hi h1 e.symm).elim
/-- The map tells where each task is. -/
structure AtQ (l : List (Int × Nat)) (q : List (List Int)) : Prop where
  nodup : (l.map (·.1)).Nodup
  mem : ∀ t e, (t, e) ∈ l ↔ t ∈ q.getD e []

theorem getD_set (q : List (List Int)) (n : Nat) (m : List Int) (h : n < q.length) (e : Nat) : (q.set n m).getD e [] = if e = n then m else q.getD e [] := by
  simp only [List.getD_eq_getElem?_getD, List.getElem?_set]
  by_cases h1 : n = e
  · subst h1; simp [h]
  · rw [if_neg h1, if_neg (fun e => h1 e.symm)]
theorem mem_flat {q : List (List Int)} {t : Int} : t ∈ q.flatten ↔ ∃ e, t ∈ q.getD e [] := by
  rw [List.mem_flatten]
  constructor
  · rintro ⟨l, hl, ht⟩
    obtain ⟨e, he, rfl⟩ := List.mem_iff_getElem.1 hl
    exact ⟨e, by simpa [he] using ht⟩
  · rintro ⟨e, he⟩
    by_cases hlt : e < q.length
    · exact ⟨q[e], List.getElem_mem hlt, by simpa [hlt] using he⟩
    · simp [hlt] at he

theorem AtQ.there {l : List (Int × Nat)} {q : List (List Int)} (h : AtQ l q) {t : Int} : t ∈ l.map (·.1) ↔ t ∈ q.flatten := by
  rw [mem_flat, List.mem_map]
  constructor
  · rintro ⟨p, hp, rfl⟩; exact ⟨p.2, (h.mem _ _).1 hp⟩
  · rintro ⟨e, he⟩; exact ⟨(t, e), (h.mem _ _).2 he, rfl⟩

theorem AtQ.start (n : Nat) : AtQ [] (List.replicate n []) := ⟨by simp, fun t e => by
  by_cases h : e < n <;> simp [h]⟩

theorem AtQ.put {l : List (Int × Nat)} {q : List (List Int)} (h : AtQ l q) {t : Int} {n : Nat} (hn : n < q.length) (ht : t ∉ q.flatten) : AtQ (l ++ [(t, n)]) (q.set n (q[n] ++ [t])) := by
  refine ⟨?_, fun t' e => ?_⟩
  · rw [List.map_append, List.nodup_append]
    refine ⟨h.nodup, by simp, fun a ha b hb => ?_⟩
    simp at hb; subst hb
    exact fun e => ht (h.there.1 (e ▸ ha))
  · rw [getD_set _ _ _ hn, List.mem_append, h.mem]
    have hg : q.getD n [] = q[n] := by simp [hn]
    by_cases he : e = n
    · subst he; simp [hn]
    · simp [he]

theorem AtQ.del {l : List (Int × Nat)} {q q' : List (List Int)} (h : AtQ l q) {t : Int} {e i : Nat} (hi : l[i]? = some (t, e)) (hq : ∀ x e, x ∈ q'.getD e [] ↔ x ∈ q.getD e [] ∧ x ≠ t) : AtQ (l.eraseIdx i) q' := by
  obtain ⟨hlt, hi'⟩ := List.getElem?_eq_some_iff.1 hi
  have hn := h.nodup
  refine ⟨?_, fun t' e' => ?_⟩
  · exact hn.sublist ((List.eraseIdx_sublist _ _).map _)
  · rw [hq, ← h.mem, List.mem_eraseIdx_iff_getElem]
    constructor
    · rintro ⟨j, hj, hne, e1⟩
      refine ⟨e1 ▸ List.getElem_mem hj, fun e2 => hne ?_⟩
      have h1 : (l.map (·.1))[j]'(by simpa using hj) = (l.map (·.1))[i]'(by simpa using hlt) := by simp [e1, hi', e2]
      exact nodup_inj hn (by simpa using hj) (by simpa using hlt) h1
    · rintro ⟨hm, hne⟩
      obtain ⟨j, hj, e1⟩ := List.mem_iff_getElem.1 hm
      refine ⟨j, hj, fun e2 => hne ?_, e1⟩
      subst e2
      rw [hi'] at e1; cases e1; rfl

theorem AtQ.get {l : List (Int × Nat)} {q : List (List Int)} (h : AtQ l q) {t : Int} (ht : t ∈ q.flatten) : ∃ (i e : Nat), l[i]? = some (t, e) ∧ t ∈ q.getD e [] := by
  obtain ⟨e, he⟩ := mem_flat.1 ht
  obtain ⟨i, hi⟩ := List.getElem?_of_mem ((h.mem _ _).2 he)
  exact ⟨i, e, hi, he⟩

-- queues -----------------------------------------------------------------------------------------------------------------------
theorem mayQ_nodup {q : List (List Int)} (h : mayQ q = true) : q.flatten.Nodup := by
  simp only [mayQ, Bool.and_eq_true, decide_eq_true_eq] at h; exact h.2
theorem mayQ_range {q : List (List Int)} (h : mayQ q = true) {t : Int} (ht : t ∈ q.flatten) : 0 ≤ t ∧ t < 32 := by
  simp only [mayQ, Bool.and_eq_true, decide_eq_true_eq, List.all_eq_true] at h; exact h.1.2 t ht
theorem mayQ_len {q : List (List Int)} (h : mayQ q = true) : q.length ≤ 8 := by
  simp only [mayQ, Bool.and_eq_true, decide_eq_true_eq] at h; exact h.1.1

theorem cntTo_le {l : List Int} (h : ∀ x, l.count x ≤ 1) : ∀ m, cntTo l m ≤ m
  | 0 => by
    have : cntTo l 0 = 0 := by
      unfold cntTo
      rw [List.countP_eq_zero]
      intro x _ hx
      simp only [decide_eq_true_eq] at hx
      omega
    omega
  | m + 1 => by rw [cntTo_succ]; have := cntTo_le h m; have := h (m : Int); omega
theorem mayQ_flat {q : List (List Int)} (h : mayQ q = true) : q.flatten.length ≤ 32 := by
  have h1 := (mayQ_iff q).1 h
  rw [← h1.2.1]
  exact cntTo_le (List.nodup_iff_count.1 (mayQ_nodup h)) 32
theorem mayQ_row {q : List (List Int)} (h : mayQ q = true) {l : List Int} (hl : l ∈ q) : l.length ≤ 32 := by
  have h1 := mayQ_flat h
  rw [List.length_flatten] at h1
  have := le_sum (List.mem_map.2 ⟨l, hl, rfl⟩ : l.length ∈ q.map List.length)
  omega

/-- The row of a task is one. -/
theorem mayQ_apart {q : List (List Int)} (h : mayQ q = true) {t : Int} {a b : Nat} (ha : t ∈ q.getD a []) (hb : t ∈ q.getD b []) : a = b := by
  have hp := (List.pairwise_flatten.1 (mayQ_nodup h)).2
  have la : a < q.length := by
    rcases Nat.lt_or_ge a q.length with h1 | h1
    · exact h1
    · simp [h1] at ha
  have lb : b < q.length := by
    rcases Nat.lt_or_ge b q.length with h1 | h1
    · exact h1
    · simp [h1] at hb
  rw [List.getD_eq_getElem?_getD, List.getElem?_eq_getElem la, Option.getD_some] at ha
  rw [List.getD_eq_getElem?_getD, List.getElem?_eq_getElem lb, Option.getD_some] at hb
  rw [List.pairwise_iff_getElem] at hp
  rcases Nat.lt_trichotomy a b with h1 | h1 | h1
  · exact (hp a b la lb h1 t ha t hb rfl).elim
  · exact h1
  · exact (hp b a lb la h1 t hb t ha rfl).elim
theorem mayQ_rowNodup {q : List (List Int)} (h : mayQ q = true) {n : Nat} (hn : n < q.length) : q[n].Nodup :=
  (List.pairwise_flatten.1 (mayQ_nodup h)).1 _ (List.getElem_mem hn)

/-- A part of a row in its place. -/
theorem mayQ_part {q : List (List Int)} (h : mayQ q = true) {n : Nat} (hn : n < q.length) {l : List Int} (hl : l.Sublist q[n]) : mayQ (q.set n l) = true := by
  have hs : (q.set n l).flatten.Sublist q.flatten := by
    rw [set_split q n _ hn]
    conv => rhs; rw [split_at q n hn]
    simp only [List.flatten_append, List.flatten_cons]
    exact (List.Sublist.refl _).append (hl.append (List.Sublist.refl _))
  have h1 := mayQ_nodup h
  have h3 := mayQ_len h
  simp only [mayQ, Bool.and_eq_true, decide_eq_true_eq, List.all_eq_true]
  exact ⟨⟨by simpa using h3, fun x hx => mayQ_range h (hs.subset hx)⟩, h1.sublist hs⟩

theorem part_mem {q : List (List Int)} (h : mayQ q = true) {n : Nat} (hn : n < q.length) {l : List Int} {t : Int} (ht : t ∈ q[n]) (hl : ∀ x, x ∈ l ↔ x ∈ q[n] ∧ x ≠ t) (x : Int) (e : Nat) : x ∈ (q.set n l).getD e [] ↔ x ∈ q.getD e [] ∧ x ≠ t := by
  have hg : q.getD n [] = q[n] := by simp [hn]
  rw [getD_set _ _ _ hn]
  by_cases he : e = n
  · subst he; rw [if_pos rfl, hg, hl]
  · rw [if_neg he]
    refine ⟨fun hx => ⟨hx, fun e1 => he ?_⟩, fun hx => hx.1⟩
    subst e1
    exact mayQ_apart h hx (by rw [hg]; exact ht)

theorem findP_some {q : List (List Int)} {t : Int} (h : mayQ q = true) {e : Nat} (he : t ∈ q.getD e []) : findP q t = some (e, t) := by
  cases hf : findP q t with
  | none => 
    have := findP_none.1 hf
    rw [List.count_eq_zero] at this
    exact absurd (mem_flat.2 ⟨e, he⟩) this
  | some p =>
    obtain ⟨h1, h2, h3⟩ := findP_mem hf
    have : p.1 = e := mayQ_apart h (by rw [List.getD_eq_getElem?_getD, List.getElem?_eq_getElem h1, Option.getD_some]; exact h3) he
    rw [← this, ← h2]
theorem findP_no {q : List (List Int)} {t : Int} (h : t ∉ q.flatten) : findP q t = none := findP_none.2 (List.count_eq_zero.2 h)

theorem eraseIdx_filter {t : Int} : ∀ {l : List Int}, l.Nodup → ∀ {i : Nat}, l[i]? = some t → l.eraseIdx i = l.filter fun x => !decide (x = t)
  | [], _, i, h => by simp at h
  | x :: l, hn, 0, h => by
    simp only [List.getElem?_cons_zero, Option.some.injEq] at h
    subst h
    rw [List.nodup_cons] at hn
    simp only [List.eraseIdx_cons_zero, List.filter_cons, decide_true, Bool.not_true, Bool.false_eq_true, if_false]
    rw [List.filter_eq_self.2]
    intro y hy
    have : y ≠ x := fun e => hn.1 (e ▸ hy)
    simpa using this
  | x :: l, hn, i + 1, h => by
    rw [List.nodup_cons] at hn
    simp only [List.getElem?_cons_succ] at h
    have hne : x ≠ t := fun e => hn.1 (e ▸ List.mem_of_getElem? h)
    simp only [List.eraseIdx_cons_succ, List.filter_cons, eraseIdx_filter hn.2 h, decide_eq_false hne, Bool.not_false, if_true]

theorem idx_get {l : List Int} {t : Int} (h : t ∈ l) : l[(idx l t).toNat]? = some t := by
  unfold idx
  cases hf : l.findIdx? (fun x => decide (x = t)) with
  | none =>
    have := List.findIdx?_eq_none_iff.1 hf t h
    simp at this
  | some i =>
    obtain ⟨h1, h2, _⟩ := List.findIdx?_eq_some_iff_getElem.1 hf
    simp only [decide_eq_true_eq] at h2
    simp [h1, h2]

-- what the calls return ----------------------------------------------------------------------------------------------------------
theorem putL_eq {q : List (List Int)} (h : mayQ q = true) {e : Nat} {t : Int} (ht : 0 ≤ t ∧ t < 32) :
    putL q e t = if q.length ≤ e then ([], 4) else if t ∈ q.flatten then ([], 7) else (q.set e (q.getD e [] ++ [t]), 0) := by
  by_cases he : q.length ≤ e
  · have hc : chk q e t = 4 := by rw [chk, if_pos h, if_neg (by omega)]
    rw [putL, hc, if_pos (by simp), if_pos he]
  · have hc : chk q e t = 0 := by rw [chk, if_pos h, if_pos (by omega)]
    rw [putL, hc, if_neg (by simp), if_neg he]
    by_cases hm : t ∈ q.flatten
    · obtain ⟨e', he'⟩ := mem_flat.1 hm
      rw [findP_some h he', if_pos (by simp), if_pos hm]
    · rw [findP_no hm, if_neg (by simp), if_neg hm, Int.toNat_natCast]
theorem takeL_eq {q : List (List Int)} (h : mayQ q = true) {e : Nat} :
    takeL q e = if q.length ≤ e then (([], 0, 4) : List (List Int) × Int × Int) else match q.getD e [] with
      | [] => ([], 0, 6)
      | t :: l => (q.set e l, t, 0) := by
  by_cases he : q.length ≤ e
  · have hc : chk q e 0 = 4 := by rw [chk, if_pos h, if_neg (by omega)]
    rw [takeL, hc, if_pos (by simp), if_pos he]
  · have hc : chk q e 0 = 0 := by rw [chk, if_pos h, if_pos (by omega)]
    rw [takeL, hc, if_neg (by simp), if_neg he, Int.toNat_natCast]
    cases q.getD e [] <;> rfl
theorem removeL_no {q : List (List Int)} (h : mayQ q = true) {t : Int} (ht : 0 ≤ t ∧ t < 32) (hm : t ∉ q.flatten) : removeL q t = ([], 6) := by
  rw [removeL, h, if_neg (by simp), if_neg (fun k => k ht), findP_no hm]
theorem removeL_at {q : List (List Int)} (h : mayQ q = true) {t : Int} {e : Nat} (he : e < q.length) (hm : t ∈ q[e]) : removeL q t = (q.set e (q[e].filter fun x => !decide (x = t)), 0) := by
  have hg : q.getD e [] = q[e] := by simp [he]
  have ht := mayQ_range h (mem_flat.2 ⟨e, by rw [hg]; exact hm⟩)
  rw [removeL, h, if_neg (by simp), if_neg (fun k => k ht), findP_some h (by rw [hg]; exact hm)]
  simp only [hg]
  rw [eraseIdx_filter (mayQ_rowNodup h he) (idx_get hm)]
theorem filter_mem (l : List Int) (t x : Int) : x ∈ l.filter (fun x => !decide (x = t)) ↔ x ∈ l ∧ x ≠ t := by simp
end Go.Dl

-- EntryOrder: own rows beside other blocks.
namespace Go.Dl
open Go Go.Proofs
set_option maxRecDepth 10000

theorem OwnV.over {e : TypeId} {H H1 X : DHeap} {l : List Int} {v : DVal} (h : OwnV e H l v H1) (d : Disj H1 X) : OwnV e (Dl.over H X) l v (Dl.over H1 X) := by
  rcases h with ⟨rfl, rfl, rfl⟩ | ⟨r, pre, lo, rest, hr, rfl, hlo, rfl⟩
  · exact .inl ⟨rfl, rfl, rfl⟩
  · have hx : X r = none := d.x (by simp [upd])
    exact .inr ⟨r, pre, lo, rest, over_eq_none.2 ⟨hr, hx⟩, rfl, hlo, (upd_over_lo hx _).symm⟩
theorem OwnV.unover {e : TypeId} {H H1 X : DHeap} {l : List Int} {v : DVal} (h : OwnV e (Dl.over H X) l v H1) (d : Disj H X) : ∃ H2, OwnV e H l v H2 ∧ H1 = Dl.over H2 X ∧ Disj H2 X := by
  rcases h with ⟨rfl, rfl, rfl⟩ | ⟨r, pre, lo, rest, hr, rfl, hlo, rfl⟩
  · exact ⟨H, .inl ⟨rfl, rfl, rfl⟩, rfl, d⟩
  · obtain ⟨h1, h2⟩ := over_eq_none.1 hr
    exact ⟨_, .inr ⟨r, pre, lo, rest, h1, rfl, hlo, rfl⟩, upd_over_lo h2 _, d.lo h2 _⟩
theorem OwnV.cell1 {e : TypeId} {H H1 : DHeap} {l : List Int} {v : DVal} (h : OwnV e H l v H1) : v.cells = [v] ∧ v.one = true := by
  rcases h with ⟨_, rfl, _⟩ | ⟨_, _, _, _, _, rfl, _⟩ <;> exact ⟨rfl, rfl⟩
theorem over_sub {H X : DHeap} (d : Disj H X) : ∀ r o, H r = some o → Dl.over H X r = some o := fun r o h => by
  rw [over_hi (d.x (by simp [h]))]; exact h
theorem Disj.subl {H H2 X : DHeap} (d : Disj H2 X) (h : ∀ r o, H r = some o → H2 r = some o) : Disj H X := fun r hr => sub_none h (d r hr)
theorem Disj.neXY {H X : DHeap} (d : Disj H X) {a b : Nat} (ha : X a ≠ none) (hb : H b ≠ none) : a ≠ b := fun e => hb (e ▸ d a ha)

theorem Disj.at {Hi X : DHeap} (h : Disj Hi X) {r : Nat} (hr : X r ≠ none) (o : Option DObj) : Disj Hi (upd X r o) := h.hi (h r hr) o
/-- append of one int to row n. -/
theorem rows_append {e : TypeId} {H H2 : DHeap} {q : List (List Int)} {vs : List DVal} {n : Nat} (hr : OwnRows e H q vs H2) (hn : n < q.length) : ∃ v, vs[n]? = some v ∧ v.cells = [v] ∧ v.one = true ∧
    ∀ {bytes : Nat} {dst : Option Nat} {K : DK} {env : Nat → DVal} {t : Int} {X : DHeap}, Disj H2 X → (q[n].length + 1) * bytes ≤ 35184372088832 →
      (∀ v' H2', OwnRows e H (q.set n (q[n] ++ [t])) (vs.set n v') H2' → Disj H2' X → v'.cells = [v'] → v'.one = true → K ⟨updO env dst v', over H2' X⟩) → dAppendTo e 1 bytes 1 [dI t] dst v K ⟨env, over H2 X⟩ := by
  obtain ⟨v, H1, hv, ho, hput⟩ := hr.focus n hn
  refine ⟨v, hv, ho.cell1.1, ho.cell1.2, fun {bytes dst K env t X} d hb hK => ?_⟩
  refine (ho.over d).append1 hb fun v' H' h' => ?_
  obtain ⟨H3, h1, rfl, h3⟩ := h'.unover (d.subl ho.sub)
  exact hK v' H3 (hput _ _ _ h1) h3 h1.cell1.1 h1.cell1.2

/-- The first of row n. -/
theorem rows_front {e : TypeId} {H H2 X : DHeap} {q : List (List Int)} {vs : List DVal} {n : Nat} {u : Int} {l : List Int} (hr : OwnRows e H q vs H2) (hn : n < q.length) (hq : q[n] = u :: l) (d : Disj H2 X) :
    ∃ r off lo cs, vs[n]? = some (.oslice 1 r off (l.length + 1) (lo + 1)) ∧ over H2 X r = some (.cells cs e) ∧ cs[off]? = some (dI u) ∧ l.length ≤ lo ∧ OwnRows e H (q.set n l) (vs.set n (.oslice 1 r (off + 1) l.length lo)) H2 ∧ H2 r ≠ none := by
  obtain ⟨v, H1, hv, ho, hput⟩ := hr.focus n hn
  rw [hq] at ho
  rcases ho with ⟨h, _⟩ | ⟨r, pre, lo, rest, h1, rfl, hlo, rfl⟩
  · cases h
  · have hx : X r = none := d.x (by simp [upd])
    simp only [List.length_cons] at hlo
    refine ⟨r, pre.length, l.length + rest.length, _, ?_, by rw [over_hi hx]; exact upd_same _ _ _, by simp, by omega, hput _ _ _ (.inr ⟨r, pre ++ [dI u], l.length + rest.length, rest, h1, ?_, rfl, ?_⟩), by simp [upd]⟩
    · rw [hv, ← hlo]; simp; omega
    · simp
    · simp
theorem rows_get {e : TypeId} {H H2 : DHeap} {q : List (List Int)} {vs : List DVal} {n : Nat} (hr : OwnRows e H q vs H2) (hn : n < q.length) : ∃ v, vs[n]? = some v ∧ ViewsR H2 v q[n] ∧ (q[n] = [] ∧ v = .nilSlice ∨ ∃ r off lo, v = .oslice 1 r off q[n].length lo) := by
  obtain ⟨v, H1, hv, ho, hput⟩ := hr.focus n hn
  refine ⟨v, hv, ho.viewsR, ?_⟩
  rcases ho with ⟨h1, h2, _⟩ | ⟨r, pre, lo, rest, h1, rfl, hlo, rfl⟩
  · exact .inl ⟨h1, h2⟩
  · exact .inr ⟨_, _, _, rfl⟩
/-- Row n is another one. -/
theorem rows_put {e : TypeId} {H H2 H3 X : DHeap} {q : List (List Int)} {vs : List DVal} {n : Nat} {l : List Int} {v : DVal} (hr : OwnRows e H q vs H2) (hn : n < q.length) (d : Disj H2 X) (hv : OwnV e (over H2 X) l v H3) :
    ∃ H4 H5, H3 = over H4 X ∧ Disj H4 X ∧ OwnRows e H (q.set n l) (vs.set n v) H5 ∧ ∀ r o, H5 r = some o → H4 r = some o := by
  obtain ⟨H4, h1, rfl, h3⟩ := hv.unover d
  obtain ⟨u, H1, _, ho, hput⟩ := hr.focus n hn
  obtain ⟨H5, k1, k2⟩ := ho.drop h1
  exact ⟨H4, H5, rfl, h3, hput _ _ _ k1, k2⟩
theorem rows_start (e : TypeId) (H : DHeap) : ∀ n, OwnRows e H (List.replicate n []) (List.replicate n .nilSlice) H
  | 0 => ⟨rfl, rfl⟩
  | n + 1 => ⟨.nilSlice, List.replicate n .nilSlice, H, rfl, rows_start e H n, .inl ⟨rfl, rfl, rfl⟩⟩
theorem eo_views {e e' : TypeId} {H H5 H2 X : DHeap} {q : List (List Int)} {vs : List DVal} {rm : Nat} (hr : OwnRows e H q vs H5) (hs : ∀ r o, H5 r = some o → H2 r = some o) (d : Disj H2 X) (hX : X rm = some (.cells vs e')) {n : Nat} (hn : q.length = n) : Views (over H2 X) (.oslice 1 rm 0 n n) q := by
  subst hn
  have h2 : H2 rm = none := d rm (by simp [hX])
  have h5 : H5 rm = none := sub_none hs h2
  refine (OwnLL.views (e := e) (e' := e') (H := H) (H1 := upd H5 rm (some (.cells vs e'))) (.inr ⟨rm, vs, H5, hr, h5, rfl, rfl⟩)).up fun r o h => ?_
  simp only [upd] at h
  split at h
  · rename_i e1; subst e1; rw [over_x hX]; exact h
  · exact over_sub d r o (hs r o h)
theorem look_em {l : List (Int × Nat)} {q : List (List Int)} (h : AtQ l q) (t : Int) : ∃ (inn : Nat) (b : Bool),
    (∀ dst K s, dput dst (.tuple [dI inn, .bool b]) K s → dLookF (em l) true dst (some (dI 0)) (dFind (dI t) (em l) 0) K s) ∧
    (b = false → t ∉ q.flatten ∧ dFind (dI t) (em l) 0 = some none) ∧ (b = true → ∃ i : Nat, l[i]? = some (t, inn) ∧ t ∈ q.getD inn [] ∧ dFind (dI t) (em l) 0 = some (some i)) := by
  by_cases ht : t ∈ q.flatten
  · obtain ⟨i, e, hi, he⟩ := h.get ht
    have hf : dFind (dI t) (em l) 0 = some (some i) := by have := dFind_at hi h.nodup 0; rwa [Nat.zero_add] at this
    refine ⟨e, true, fun dst K s hk => ?_, fun h => (by cases h), fun _ => ⟨i, hi, he, hf⟩⟩
    rw [hf]
    exact ⟨_, em_get hi, hk⟩
  · have hf : dFind (dI t) (em l) 0 = some none := dFind_none (fun k => ht (h.there.1 k)) 0
    refine ⟨0, false, fun dst K s hk => ?_, fun _ => ⟨ht, hf⟩, fun h => (by cases h)⟩
    rw [hf]
    exact hk
end Go.Dl

-- THE DATA LEVEL, PART K: the frame of a call: what a callee makes with no memory of the caller's at hand, it makes beside it.
namespace Go.Dl
open Go
set_option maxRecDepth 10000

theorem DCalls.frame {P : Program} {G : Nat → DVal} {f : FuncId} {args args' : List DVal} {H : DHeap} {R : DEnd → DHeap → Prop} (h : DCalls P G f args' h0 R)
    (hb : ∀ w vs, SimHeap w H → RelL w H args vs → RelL w h0 args' vs) (hR : ∀ e X, R e X → ∃ v, e = .ret v ∧ loose v = true ∧ Loose h0 X) : DCalls P G f args H (fun e H' => ∃ X, R e X ∧ Disj H X ∧ H' = over H X) := by
  refine ⟨h.1, fun vs w hv hH hg => ?_⟩
  have hg0 : GOk G w h0 := hg.lasts (lasts_h0 H w)
  refine (h.2 vs w (hb w vs hH hv) (fun r o hr => by cases hr) hg0).mono fun x w' ⟨e', X, r, k1, k2, k3⟩ => ?_
  obtain ⟨v, rfl, hl, hX⟩ := hR _ _ r
  have hown : ∀ b, X b ≠ none → w.heap.size ≤ b := fun b hb => (k3.own b hb).resolve_left (fun k => k rfl)
  have hd : Disj H X := fun b hb => by
    cases e1 : H b with
    | none => rfl
    | some o => have := hH.lt (r := b) (by simp [e1]); have := hown b hb; omega
  have hE : Ext H w (over H X) w' := ⟨k3.os, k3.tape, k3.output, k3.size, fun b hb _ => k3.block b hb rfl, fun b hb => by
    by_cases e1 : X b = none
    · rw [over_hi e1] at hb; exact .inl hb
    · exact .inr (hown b e1), k3.keep, fun a ha _ => k3.fz a ha rfl⟩
  refine ⟨.ret v, over H X, ⟨X, r, hd, rfl⟩, ?_, ?_, hE⟩
  · cases k1 with
    | ret d x hx => exact .ret _ _ (loose_rel _ _ hl hx)
  · intro b o ho
    cases e1 : X b with
    | none =>
      rw [over_hi e1] at ho
      rw [k3.block b (hH.lt (by simp [ho])) rfl]
      exact (hH b o ho).lasts hE.lasts
    | some o' =>
      rw [over_x e1] at ho; cases ho
      have hlo : looseO o = true := (hX b o e1).resolve_left (fun k => by cases k)
      have hr := k2 b o e1
      cases o with
      | cells cs e =>
        obtain ⟨xs, c, fz', h1, h2, h3, h4⟩ := hr
        exact ⟨xs, c, fz', h1, h2, looses_rel _ _ hlo h3, h4⟩
      | loop _ _ _ => cases hlo
      | iter _ _ => exact hr
      | map es =>
        obtain ⟨ms, c, h1, h2⟩ := hr
        refine ⟨ms, c, h1, ?_⟩
        simp only [looseO, List.all_eq_true, Bool.and_eq_true] at hlo
        clear h1 e1
        generalize ms.toList = l at h2
        induction es generalizing l with
        | nil => exact h2
        | cons p es ih =>
          obtain ⟨m, ms', rfl, g1, g2, g3⟩ := h2
          exact ⟨m, ms', rfl, loose_rel _ _ (hlo p (by simp)).1 g1, loose_rel _ _ (hlo p (by simp)).2 g2, ih (fun q hq => hlo q (List.mem_cons_of_mem _ hq)) _ g3⟩

/-- A call that only looks, and whose result points to nothing. -/
theorem DCalls.lent {P : Program} {G : Nat → DVal} {f : FuncId} {args args' : List DVal} {H : DHeap} {v : DVal} (h : DCalls P G f args' h0 (DRet v h0))
    (hb : ∀ w vs, SimHeap w H → RelL w H args vs → RelL w h0 args' vs) (hv : loose v = true) : DCalls P G f args H (DRet v H) :=
  (h.frame hb (fun e X hr => ⟨v, hr.1, hv, by rw [hr.2]; exact .refl _⟩)).mono fun e H' ⟨X, hr, _, hH⟩ => ⟨hr.1, by rw [hH, hr.2, over_h0]⟩


/-- A slice of the call's own, lent to a callee that only looks. -/
theorem OwnJ.lend {H H' : DHeap} {e : TypeId} {size n : Nat} {cs : List DVal} {v : DVal} (h : OwnJ H e size n cs v H') (ds : List DVal) : ∀ w vs, SimHeap w H' → RelL w H' (v :: ds) vs → RelL w h0 (.vslice cs n :: ds) vs := by
  intro w vs hw hv
  simp only [RelL] at hv ⊢
  obtain ⟨y, ys, rfl, h1, h2⟩ := hv
  obtain ⟨_, _, k3⟩ := h.ghost w hw
  exact ⟨y, ys, rfl, Rel.lasts (lasts_h0 H w) _ _ (k3 y h1), RelL.lasts (lasts_h0 H' w) _ _ h2⟩
end Go.Dl

-- The frame of a call: what a callee makes with no memory of the caller's at hand, it makes beside it.
namespace Go.Dl
open Go Go.Proofs
set_option maxRecDepth 10000

theorem OwnV.lift {e : TypeId} {H X0 X : DHeap} {l : List Int} {v : DVal} (h : OwnV e X0 l v X) (d : Disj H X) : OwnV e (Dl.over H X0) l v (Dl.over H X) := by
  rcases h with ⟨rfl, rfl, rfl⟩ | ⟨r, pre, lo, rest, hr, rfl, hlo, rfl⟩
  · exact .inl ⟨rfl, rfl, rfl⟩
  · exact .inr ⟨r, pre, lo, rest, over_eq_none.2 ⟨d r (by simp [upd]), hr⟩, rfl, hlo, (upd_over _ _ _ _).symm⟩
theorem Disj.mono {H X X' : DHeap} (d : Disj H X) (h : ∀ r o, X' r = some o → X r = some o) : Disj H X' := fun r hr => d r (by
  cases e : X' r with
  | none => exact absurd e hr
  | some o => rw [h r o e]; simp)
theorem OwnRows.lift {e : TypeId} {H X0 : DHeap} : ∀ {q : List (List Int)} {vs : List DVal} {X : DHeap}, OwnRows e X0 q vs X → Disj H X → OwnRows e (over H X0) q vs (over H X)
  | [], vs, X, h, _ => by obtain ⟨rfl, rfl⟩ := h; exact ⟨rfl, rfl⟩
  | l :: q, vs, X, h, d => by
    obtain ⟨v, vs', X1, rfl, h1, h2⟩ := h
    exact ⟨v, vs', over H X1, rfl, h1.lift (d.mono h2.sub), h2.lift d⟩
theorem OwnLL.lift {e e' : TypeId} {H X0 X : DHeap} {q : List (List Int)} {v : DVal} (h : OwnLL e e' X0 q v X) (d : Disj H X) : OwnLL e e' (over H X0) q v (over H X) := by
  rcases h with ⟨rfl, rfl, rfl⟩ | ⟨ro, vs, X1, h1, h2, rfl, rfl⟩
  · exact .inl ⟨rfl, rfl, rfl⟩
  · have hX1 : ∀ r o, X1 r = some o → upd X1 ro (some (.cells vs e')) r = some o := fun r o hr => by
      have : r ≠ ro := fun e => by rw [e, h2] at hr; cases hr
      simp [upd, this, hr]
    exact .inr ⟨ro, vs, over H X1, h1.lift (d.mono hX1), over_eq_none.2 ⟨d ro (by simp [upd]), h2⟩, rfl, (upd_over _ _ _ _).symm⟩
theorem Loose.lift {H X : DHeap} (h : Loose h0 X) : Loose H (over H X) := fun r o hr => by
  cases e : X r with
  | none => rw [over_hi e] at hr; exact .inl hr
  | some o' =>
    rw [over_x e] at hr; cases hr
    exact .inr ((h r o e).resolve_left (fun k => by cases k))

/-- Own rows are seen as memory that lasts. -/
theorem OwnV.ghostSub {e : TypeId} {H H0 : DHeap} {l : List Int} {v : DVal} (h : OwnV e H l v H0) : ∀ w, SimHeap w H0 → SimHeap w H := fun w hw => (h.ghost w hw).1
theorem OwnLL.ghost {e e' : TypeId} {H H1 : DHeap} {q : List (List Int)} {v : DVal} (h : OwnLL e e' H q v H1) : GhostE H1 v H (dIss q) := fun w hw => by
  have hs := h.sub
  refine ⟨fun r o ho => (hw r o (hs r o ho)).lasts (lasts_sub hs w), fun b hb e => hb (sub_none hs e), fun x hx => ?_⟩
  rcases h with ⟨rfl, rfl, rfl⟩ | ⟨ro, vs, H2, h1, h2, rfl, rfl⟩
  · exact DLe.nil _ _ _ hx
  · have g := GhostE.fz (v := .oslice 1 ro 0 q.length q.length) (upd_same H2 ro (some (.cells vs e')))
    rw [upd_none_self h2] at g
    simp only [Dl.fz, if_pos, List.drop_zero, Nat.mul_one] at g
    rw [← h1.len, List.take_length] at g
    obtain ⟨g1, _, g3⟩ := g w hw
    have hy := g3 x (by rw [h1.len]; exact hx)
    have rows : ∀ {q : List (List Int)} {vs : List DVal} {H2 : DHeap}, OwnRows e H q vs H2 → SimHeap w H2 → ∀ xs, RelL w H2 vs xs → RelL w H (q.map dIs) xs := by
      intro q
      induction q with
      | nil => intro vs H2 h _ xs hx; obtain ⟨rfl, rfl⟩ := h; simpa [RelL] using hx
      | cons l q ih =>
        intro vs H2 h hw xs hx
        obtain ⟨u, vs', H3, rfl, k1, k2⟩ := h
        simp only [RelL, List.map_cons] at hx ⊢
        obtain ⟨y, ys, rfl, m1, m2⟩ := hx
        obtain ⟨n1, n2, n3⟩ := k2.ghost w hw
        exact ⟨y, ys, rfl, Rel.lasts (lasts_sub k1.sub w) _ _ (n3 y m1), ih k1 n1 ys (RelL.lasts (lasts_sub k2.sub w) _ _ m2)⟩
    simp only [Rel, dIss] at hy ⊢
    obtain ⟨a, cap, rfl, hle, k⟩ := hy
    refine ⟨a, cap, by rw [h1.len], by rw [← h1.len]; exact hle, ?_⟩
    rcases k with rfl | ⟨b, o, ys, rfl, k1, k2⟩
    · refine .inl ?_
      have := h1.len
      cases q with
      | nil => rfl
      | cons l q => simp at this
    · exact .inr ⟨b, o, ys, rfl, k1.lasts (lasts_sub h1.sub w), rows h1 g1 ys k2⟩
/-- Among other values that point nowhere. -/
theorem GhostE.sub1 {H H' : DHeap} {v v' : DVal} (h : GhostE H v H' v') {pre post : List DVal} (hp : loose.looses pre = true) (hq : loose.looses post = true) (w : World) (hw : SimHeap w H) : ∀ xs, RelL w H (pre ++ v :: post) xs → RelL w H' (pre ++ v' :: post) xs := by
  intro xs hx
  have e : xs = xs.take pre.length ++ xs.drop pre.length := (List.take_append_drop _ _).symm
  have h1 := hx.take pre.length
  have h2 := hx.drop pre.length
  rw [List.take_left] at h1
  rw [List.drop_left] at h2
  rw [e]
  refine (looses_rel _ _ hp h1).append ?_
  simp only [RelL] at h2 ⊢
  obtain ⟨y, ys, h3, h4, h5⟩ := h2
  rw [h3]
  exact ⟨y, ys, rfl, (h w hw).2.2 y h4, looses_rel _ _ hq h5⟩
theorem GhostE.agg1 {H H' : DHeap} {v v' : DVal} (h : GhostE H v H' v') {pre post : List DVal} (hp : loose.looses pre = true) (hq : loose.looses post = true) : GhostE H (.agg (pre ++ v :: post)) H' (.agg (pre ++ v' :: post)) := fun w hw =>
  ⟨(h w hw).1, (h w hw).2.1, fun x hx => by
    simp only [Rel] at hx ⊢
    obtain ⟨xs, rfl, hl⟩ := hx
    exact ⟨xs, rfl, h.sub1 hp hq w hw _ hl⟩⟩
theorem GhostE.tuple1 {H H' : DHeap} {v v' : DVal} (h : GhostE H v H' v') {pre post : List DVal} (hp : loose.looses pre = true) (hq : loose.looses post = true) : GhostE H (.tuple (pre ++ v :: post)) H' (.tuple (pre ++ v' :: post)) := fun w hw =>
  ⟨(h w hw).1, (h w hw).2.1, fun x hx => by
    simp only [Rel] at hx ⊢
    obtain ⟨xs, rfl, hl⟩ := hx
    exact ⟨xs, rfl, h.sub1 hp hq w hw _ hl⟩⟩

-- entry, with queues that are lent -----------------------------------------------------------------------------------------------
theorem views_args {H1 : DHeap} {v : DVal} {q : List (List Int)} (hv : Views H1 v q) {ds : List DVal} : ∀ w vs, SimHeap w H1 → RelL w H1 (v :: ds) vs → RelL w h0 (dIss q :: ds) vs := fun w vs hw hx => by
  simp only [RelL] at hx ⊢
  obtain ⟨y, ys, rfl, k1, k2⟩ := hx
  exact ⟨y, ys, rfl, hv w y hw k1, RelL.lasts (lasts_h0 _ w) _ _ k2⟩
theorem loose_findD (q : List (List Int)) (t : Int) : loose (findD q t) = true := by
  unfold findD
  split
  · split <;> rfl
  · rfl
theorem loose_openD (q : List (List Int)) (o : List Bool) : loose (openD q o) = true := by
  unfold openD
  split
  · split <;> rfl
  · rfl
theorem OwnLL.loose1 {e e' : TypeId} {H H1 : DHeap} {q : List (List Int)} {v : DVal} (h : OwnLL e e' H q v H1) : loose v = true := by
  rcases h with ⟨_, rfl, _⟩ | ⟨_, _, _, _, _, rfl, _⟩ <;> rfl
section
variable (G : Nat → DVal) (q : List (List Int)) (v : DVal) (H : DHeap) (hv : Views H v q) (hq : q.length ≤ 1099511627776)
include hv hq
theorem find_lent (t : Int) (hl : ∀ l ∈ q, l.length ≤ 1099511627776) : DCalls Try.prog G 41 [v, dI t] H (DRet (findD q t) H) :=
  (find_spec G q t h0 hq hl).lent (views_args hv) (loose_findD q t)
theorem open_lent (o : List Bool) (hl : ∀ l ∈ q, l.length ≤ 1099511627776) (ho : o.length ≤ 1099511627776) : DCalls Try.prog G 38 [v, dBs o] H (DRet (openD q o) H) :=
  (open_spec G q o h0 hq hl ho).lent (views_args hv) (loose_openD q o)
theorem take_lent (e : Int) (hl : ∀ l ∈ q, l.length ≤ 1000000000) :
    DCalls Try.prog G 39 [v, dI e] H fun x H' => ∃ u, x = .ret (.tuple [u, dI (takeL q e).2.1, dI (takeL q e).2.2]) ∧ OwnLL 3 27 H (takeL q e).1 u H' ∧ Loose H H' :=
  ((take_own G q e h0 hq hl).frame (views_args hv) (fun x X ⟨u, hx, hu, hX⟩ => ⟨_, hx, by simp [loose, loose.looses, hu.loose1, dI], hX⟩)).mono fun x H' ⟨X, ⟨u, hx, hu, hX⟩, hd, hH⟩ => ⟨u, hx, by rw [hH]; exact hu.lift hd, by rw [hH]; exact hX.lift⟩
theorem put_lent (e t : Int) (hl : ∀ l ∈ q, l.length ≤ 1000000000) :
    DCalls Try.prog G 31 [v, dI e, dI t] H fun x H' => ∃ u, x = .ret (.tuple [u, dI (putL q e t).2]) ∧ OwnLL 3 27 H (putL q e t).1 u H' ∧ Loose H H' :=
  ((put_own G q e t h0 hq hl).frame (views_args hv) (fun x X ⟨u, hx, hu, hX⟩ => ⟨_, hx, by simp [loose, loose.looses, hu.loose1, dI], hX⟩)).mono fun x H' ⟨X, ⟨u, hx, hu, hX⟩, hd, hH⟩ => ⟨u, hx, by rw [hH]; exact hu.lift hd, by rw [hH]; exact hX.lift⟩
end
end Go.Dl

-- lock: May, open; the reference's May.
namespace Go.Dl
open Go Go.Proofs
set_option maxRecDepth 10000

structure PS where
  locked : Bool
  owner : Int
  q : List (List Int)
  deriving DecidableEq
def dPS (s : PS) : DVal := .agg [.bool s.locked, dI s.owner, dIss s.q]
def isTask (t : Int) : Bool := decide (0 ≤ t ∧ t < 32)
def mayS (s : PS) : Bool := mayQ s.q && (if s.locked then isTask s.owner && !decide (s.owner ∈ s.q.flatten) else decide (s.owner = 0))
def ZPS : PS := ⟨false, 0, []⟩
attribute [go_sem] dPS List.getElem?_toArray List.getElem?_cons_zero List.getElem?_cons_succ

theorem ltask_spec (G : Nat → DVal) (t : Int) (H : DHeap) : DCalls Try.prog G 32 [dI t] H (DRet (.bool (isTask t)) H) := by
  refine dcalls_intro Try.func32 Try.call32 rfl (by kernel_rfl) ?_
  by_cases c1 : 0 ≤ t
  · by_cases c2 : t < 32
    · simp (disch := omega) only [go_sem, ↓reduceIte]
      exact DFin.refl ⟨by rw [isTask, decide_eq_true (by omega)], rfl⟩
    · simp (disch := omega) only [go_sem, ↓reduceIte]
      exact DFin.refl ⟨by rw [isTask, decide_eq_false (by omega)], rfl⟩
  · simp (disch := omega) only [go_sem, ↓reduceIte]
    exact DFin.refl ⟨by rw [isTask, decide_eq_false (by omega)], rfl⟩
/-- Is a task in a queue? -/
def waitsB (q : List (List Int)) (t : Int) : Bool := mayQ q && decide (t ∈ q.flatten)
theorem findD_waits (q : List (List Int)) (t : Int) : ∃ a b, findD q t = .tuple [dI a, dI b, .bool (waitsB q t)] := by
  unfold findD waitsB
  split
  · rename_i hm
    by_cases h : t ∈ q.flatten
    · obtain ⟨e, he⟩ := mem_flat.1 h
      rw [findP_some hm he]
      exact ⟨e, idx (q.getD e []) t, by simp only [hm, h, decide_true, Bool.and_self]⟩
    · rw [findP_no h]
      exact ⟨0, 0, by simp [hm, h]⟩
  · rename_i hm
    exact ⟨0, 0, by simp [hm]⟩
theorem waits_spec (G : Nat → DVal) (q : List (List Int)) (v : DVal) (t : Int) (H : DHeap) (hv : Views H v q) (hq : q.length ≤ 1099511627776) (hl : ∀ l ∈ q, l.length ≤ 1099511627776) : DCalls Try.prog G 33 [v, dI t] H (DRet (.bool (waitsB q t)) H) := by
  refine dcalls_intro Try.func33 Try.call33 rfl (by kernel_rfl) ?_
  obtain ⟨a, b, hf⟩ := findD_waits q t
  simp (disch := omega) only [go_sem, ↓reduceIte]
  refine (find_lent G q v _ hv hq t hl).mono ?_
  rintro _ H ⟨rfl, rfl⟩
  rw [hf]
  simp (disch := omega) only [go_sem, ↓reduceIte]
  exact DFin.refl ⟨rfl, rfl⟩

theorem lmay_spec (G : Nat → DVal) (s : PS) (H : DHeap) (hq : s.q.length ≤ 1099511627776) (hl : ∀ l ∈ s.q, l.length ≤ 1099511627776) : DCalls Try.prog G 37 [dPS s] H (DRet (.bool (mayS s)) H) := by
  obtain ⟨lo, o, q⟩ := s
  refine dcalls_intro Try.func37 Try.call37 rfl (by kernel_rfl) ?_
  simp (disch := omega) only [go_sem, ↓reduceIte]
  intro r hr; dsimp only at hr
  simp (disch := omega) only [go_sem, ↓reduceIte]
  cases lo with
  | false =>
    simp (disch := omega) only [go_sem, ↓reduceIte]
    refine (may_spec G q _ hq hl).mono ?_
    rintro _ H1 ⟨rfl, rfl⟩
    cases hm : mayQ q with
    | false =>
      simp (disch := omega) only [go_sem, ↓reduceIte, hr]
      exact DFin.dropA r hr (DFin.refl ⟨by simp [mayS, hm], rfl⟩)
    | true =>
      simp (disch := omega) only [go_sem, ↓reduceIte, hr]
      exact DFin.dropA r hr (DFin.refl ⟨by simp [mayS, hm], rfl⟩)
  | true =>
    simp (disch := omega) only [go_sem, ↓reduceIte]
    refine (may_spec G q _ hq hl).mono ?_
    rintro _ H1 ⟨rfl, rfl⟩
    cases hm : mayQ q with
    | false =>
      simp (disch := omega) only [go_sem, ↓reduceIte, hr]
      exact DFin.dropA r hr (DFin.refl ⟨by simp [mayS, hm], rfl⟩)
    | true =>
      simp (disch := omega) only [go_sem, ↓reduceIte, hr]
      refine (ltask_spec G o _).mono ?_
      rintro _ H1 ⟨rfl, rfl⟩
      cases ht : isTask o with
      | false =>
        simp (disch := omega) only [go_sem, ↓reduceIte, hr]
        exact DFin.dropA r hr (DFin.refl ⟨by simp [mayS, hm, ht], rfl⟩)
      | true =>
        simp (disch := omega) only [go_sem, ↓reduceIte, hr]
        refine (waits_spec G q (dIss q) o _ (.frozen _ _) hq hl).mono ?_
        rintro _ H1 ⟨rfl, rfl⟩
        simp (disch := omega) only [go_sem, ↓reduceIte, hr]
        exact DFin.dropA r hr (DFin.refl ⟨by simp [mayS, hm, ht, waitsB], rfl⟩)
end Go.Dl

-- The reference's May of chapter 32; lock.open.
namespace Go.Dl
open Go Go.Proofs
set_option maxRecDepth 10000

/-- What a valid state's own copy is: the object's block r, over rows of its own. -/
def OwnObj (H : DHeap) (s : PS) (r : Nat) (H' : DHeap) : Prop :=
  ∃ u H1, OwnLL 3 27 H s.q u H1 ∧ Loose H H1 ∧ H1 r = none ∧ H' = upd H1 r (some (.cells [.bool s.locked, dI s.owner, u] 71))

/-- What open comes with. -/
def OpenR (s : PS) (H : DHeap) (x : DEnd) (H' : DHeap) : Prop := (mayS s = false ∧ x = .ret (.tuple [.nilPtr, .bool false]) ∧ H' = H) ∨ (mayS s = true ∧ ∃ r, x = .ret (.tuple [.optr r 0, .bool true]) ∧ OwnObj H s r H')
theorem lopen_spec (G : Nat → DVal) (s : PS) (H : DHeap) (hq : s.q.length ≤ 1099511627776) (hl : ∀ l ∈ s.q, l.length ≤ 1099511627776) :
    DCalls Try.prog G 26 [dPS s] H (OpenR s H) := by
  obtain ⟨lo, o, q⟩ := s
  dsimp only at hq hl
  refine dcalls_intro Try.func26 Try.call26 rfl (by kernel_rfl) ?_
  simp (disch := omega) only [go_sem, ↓reduceIte]
  intro rb hrb; dsimp only at hrb
  simp (disch := omega) only [go_sem, ↓reduceIte]
  refine (lmay_spec G ⟨lo, o, q⟩ _ hq hl).mono ?_
  rintro _ H1 ⟨rfl, rfl⟩
  cases hm : mayS ⟨lo, o, q⟩ with
  | false =>
    simp (disch := omega) only [go_sem, ↓reduceIte, hrb]
    exact DFin.dropA rb hrb (DFin.refl (.inl ⟨hm, rfl, rfl⟩))
  | true =>
    simp (disch := omega) only [go_sem, ↓reduceIte, hrb]
    intro r hr; dsimp only at hr
    rw [upd_eq_none] at hr
    simp (disch := omega) only [go_sem, ↓reduceIte, hr]
    obtain ⟨I, hI⟩ : ∃ I : Nat → (Nat → DVal) → DHeap → Prop, ∀ k env heap, I k env heap ↔ (env 1 = .optr rb 0 ∧ env 4 = .oslice 1 r 0 q.length q.length ∧ env 15 = dIss q ∧ env 16 = dI q.length ∧ env 17 = dI k ∧ k ≤ q.length ∧ heap rb = some (.cells [.bool lo, dI o, dIss q] 36) ∧ ∃ vs H1, OwnRows 3 H (q.take k) vs H1 ∧ Loose H H1 ∧ H1 rb = none ∧ H1 r = none ∧ heap = upd (upd H1 rb (some (.cells [.bool lo, dI o, dIss q] 36))) r (some (.cells (vs ++ List.replicate (q.length - k) .nilSlice) 27))) := ⟨_, fun _ _ _ => Iff.rfl⟩
    refine DLoop.run I (fun k => q.length - k) 0 ((hI _ _ _).2 ?_) ?_
    · simp (disch := omega) only [go_sem, ↓reduceIte, hr]
      (repeat' apply And.intro) <;> (try first | rfl | assumption | omega)
      exact ⟨[], H, ⟨rfl, rfl⟩, .refl _, hrb, hr.2.2, by simp⟩
    · intro k env heap hk
      obtain ⟨g1, g4, g15, g16, g17, hk, hob, vs, H1, hrows, hlo, hrb1, hr1, hheap⟩ := (hI _ _ _).1 hk
      have htl : (q.take k).length = k := by rw [List.length_take]; omega
      have hvl : vs.length = k := by rw [hrows.len, htl]
      by_cases hlt : k < q.length
      · simp (disch := omega) only [go_sem, ↓reduceIte, g1, g4, g15, g16, g17]
        refine (clone_own G q[k] _ (hl _ (List.getElem_mem hlt))).mono ?_
        rintro _ H2 ⟨u, rfl, hu⟩
        subst hheap
        have hnr : r ≠ rb := hr.1
        have hu' := hu.ownV
        have huL := hu.loose (looses_ints _)
        have k1 := hu'.keep (upd_same _ r _)
        have k2 := hu'.keep (r := rb) (by rw [upd_ne _ _ _ _ hnr.symm]; exact upd_same _ rb _)
        have hu1 := (hu'.unframe (by rw [upd_ne _ _ _ _ hnr]; exact hr1)).unframe hrb1
        have hL1 := (huL.unframe).unframe
        simp (disch := omega) only [go_sem, ↓reduceIte, g1, g4, g15, g16, g17, k1, hu'.cell1.1, hu'.cell1.2]
        refine ⟨by rw [List.length_append, List.length_replicate, hvl]; omega, k + 1, _, GhostS.refl _, (hI _ _ _).2 ?_, by omega⟩
        simp (disch := omega) only [go_sem, ↓reduceIte, g1, g4, g15, g16, g17, hnr, hnr.symm, k2]
        (repeat' apply And.intro) <;> (try first | rfl | assumption | omega)
        have hst := hrows.snoc hu1
        rw [show q.take k ++ [q[k]] = q.take (k + 1) by rw [List.take_add_one, List.getElem?_eq_getElem hlt]; rfl] at hst
        refine ⟨vs ++ [u], _, hst, hlo.trans hL1, by simp [upd], by simp [upd], ?_⟩
        have := splice_fill vs [u] (q.length - k) .nilSlice (by simp; omega)
        rw [hvl] at this
        rw [this]
        funext i
        simp only [upd]
        by_cases e1 : i = r
        · subst e1; simp; omega
        · by_cases e2 : i = rb
          · subst e2; simp [e1]; exact k2
          · simp [e1, e2]
      · simp (disch := omega) only [go_sem, ↓reduceIte, g1, g4, g15, g16, g17]
        have hkq : k = q.length := by omega
        subst hkq
        simp only [List.take_length, Nat.sub_self, List.replicate_zero, List.append_nil] at hrows hheap
        have hnr : r ≠ rb := hr.1
        subst hheap
        simp (disch := omega) only [go_sem, ↓reduceIte, hnr, hnr.symm, g1, g4]
        intro rc hrc; dsimp only at hrc
        simp only [upd_eq_none] at hrc
        simp (disch := omega) only [go_sem, ↓reduceIte, hnr, hnr.symm, hrc]
        refine DFin.sub (H' := upd (upd H1 r (some (.cells vs 27))) rc (some (.cells [.bool lo, dI o, .oslice 1 r 0 q.length q.length] 71))) (fun b p hb => ?_) (DFin.refl (.inr ⟨hm, rc, rfl, .oslice 1 r 0 q.length q.length, upd H1 r (some (.cells vs 27)), .inr ⟨r, vs, H1, hrows, hr1, rfl, rfl⟩, hlo.upd hrows.looses, by simp [upd, hrc], rfl⟩))
        simp only [upd] at hb ⊢
        by_cases e1 : b = rc
        · simpa [e1] using hb
        · by_cases e2 : b = r
          · subst e2; simpa [e1, hnr] using hb
          · by_cases e3 : b = rb
            · subst e3; simp [e1, e2, hrb1] at hb
            · simpa [e1, e2, e3] using hb
end Go.Dl

-- lock: Begin, New, Leave.
namespace Go.Dl
open Go Go.Proofs
set_option maxRecDepth 10000

theorem sub_refl (H : DHeap) : ∀ b o, H b = some o → H b = some o := fun _ _ h => h
theorem sub_upd {H H' : DHeap} (h : ∀ b o, H b = some o → H' b = some o) {r : Nat} (hr : H r = none) (x : Option DObj) : ∀ b o, H b = some o → upd H' r x b = some o := fun b o hb => by
  have : b ≠ r := fun e => by rw [e, hr] at hb; cases hb
  simp only [upd, if_neg this]; exact h b o hb
theorem OwnLL.unframe {e e' : TypeId} {H H1 : DHeap} {q : List (List Int)} {v : DVal} {r : Nat} {o : DObj} (h : OwnLL e e' (upd H r (some o)) q v H1) (hr : H r = none) : ∃ H2, OwnLL e e' H q v H2 ∧ H1 = upd H2 r (some o) ∧ H2 r = none := by
  rcases h with ⟨rfl, rfl, rfl⟩ | ⟨ro, vs, H2, h1, h2, rfl, rfl⟩
  · exact ⟨H, .inl ⟨rfl, rfl, rfl⟩, rfl, hr⟩
  · obtain ⟨H3, k1, rfl, k3⟩ := h1.unframe hr
    rw [upd_eq_none] at h2
    exact ⟨_, .inr ⟨ro, vs, H3, k1, h2.2.2, rfl, rfl⟩, (upd_swap h2.1 _ _ _), by simp [upd, h2.2.1, k3]⟩

/-- A state, over rows of the call's own, and an error. -/
def OwnR1 (s : PS) (e : Int) (H : DHeap) (x : DEnd) (H' : DHeap) : Prop := ∃ u, x = .ret (.tuple [.agg [.bool s.locked, dI s.owner, u], dI e]) ∧ OwnLL 3 27 H s.q u H'
theorem OwnR1.zero (e : Int) (H : DHeap) : OwnR1 ZPS e H (.ret (.tuple [.agg [.bool false, dI 0, .nilSlice], dI e])) H := ⟨_, rfl, .nil _ _ _⟩

def beginL (s : PS) (t a c : Int) : PS × Int :=
  if mayS s = false then (ZPS, 2) else if ¬ (0 ≤ t ∧ t < 32 ∧ 0 ≤ a ∧ a ≤ c ∧ c ≤ 31) then (ZPS, 4) else if waitsB s.q t then (ZPS, 7) else if s.locked then (ZPS, 8) else (⟨true, t, s.q⟩, 0)

theorem mayS_q {s : PS} (h : mayS s = true) : mayQ s.q = true := by
  unfold mayS at h; simp only [Bool.and_eq_true] at h; exact h.1
theorem begin_spec (G : Nat → DVal) (s : PS) (t a c : Int) (H : DHeap) (hq : s.q.length ≤ 1099511627776) (hl : ∀ l ∈ s.q, l.length ≤ 1099511627776) :
    DCalls Try.prog G 18 [dPS s, dI t, dI a, dI c] H (OwnR1 (beginL s t a c).1 (beginL s t a c).2 H) := by
  refine dcalls_intro Try.func18 Try.call18 rfl (by kernel_rfl) ?_
  simp (disch := omega) only [go_sem, ↓reduceIte]
  intro rb hrb; dsimp only at hrb
  simp (disch := omega) only [go_sem, ↓reduceIte]
  intro ro hro; dsimp only at hro
  rw [upd_eq_none] at hro
  simp (disch := omega) only [go_sem, ↓reduceIte, hro]
  refine (lopen_spec G s _ hq hl).mono ?_
  rintro _ H1 (⟨hm, rfl, rfl⟩ | ⟨hm, r, rfl, u, H2, hu, huL, hr, rfl⟩)
  · have hb : beginL s t a c = (ZPS, 2) := by simp [beginL, hm]
    rw [hb]
    simp (disch := omega) only [go_sem, ↓reduceIte, hro]
    exact DFin.sub (sub_upd (sub_upd (sub_refl H) hrb _) hro.2.2 _) (DFin.refl (OwnR1.zero _ _))
  · obtain ⟨H3, hu3, rfl, h3⟩ := hu.unframe (by simp [upd, hro])
    obtain ⟨H4, hu4, rfl, h4⟩ := hu3.unframe hrb
    simp only [upd_eq_none] at hr h3
    have hmq := mayS_q hm
    have hv := hu4.views
    simp (disch := omega) only [go_sem, ↓reduceIte, hro, hr, h3]
    refine (ltask_spec G t _).mono ?_
    rintro _ H1 ⟨rfl, rfl⟩
    have bad : ¬ (0 ≤ t ∧ t < 32 ∧ 0 ≤ a ∧ a ≤ c ∧ c ≤ 31) → beginL s t a c = (ZPS, 4) := fun h => by rw [beginL, if_neg (by simp [hm]), if_pos h]
    have hsub : ∀ b o, H b = some o → H4 b = some o := hu4.sub
    have hHo := hro.2.2
    have hHr := sub_none hsub hr.2.2.2.2
    cases ht : isTask t with
    | false =>
      rw [bad (fun h => by simp [isTask, h] at ht)]
      simp (disch := omega) only [go_sem, ↓reduceIte, hro, hr, h3]
      exact DFin.sub (by repeat (first | assumption | exact sub_refl _ | refine sub_upd ?_ (by assumption) _)) (DFin.refl (OwnR1.zero _ _))
    | true =>
      have ht' : 0 ≤ t ∧ t < 32 := by simpa [isTask] using ht
      by_cases c1 : a < 0
      · rw [bad (by omega)]
        simp (disch := omega) only [go_sem, ↓reduceIte, hro, hr, h3]
        exact DFin.sub (by repeat (first | assumption | exact sub_refl _ | refine sub_upd ?_ (by assumption) _)) (DFin.refl (OwnR1.zero _ _))
      by_cases c2 : c < a
      · rw [bad (by omega)]
        simp (disch := omega) only [go_sem, ↓reduceIte, hro, hr, h3]
        exact DFin.sub (by repeat (first | assumption | exact sub_refl _ | refine sub_upd ?_ (by assumption) _)) (DFin.refl (OwnR1.zero _ _))
      by_cases c3 : 31 < c
      · rw [bad (by omega)]
        simp (disch := omega) only [go_sem, ↓reduceIte, hro, hr, h3]
        exact DFin.sub (by repeat (first | assumption | exact sub_refl _ | refine sub_upd ?_ (by assumption) _)) (DFin.refl (OwnR1.zero _ _))
      simp (disch := omega) only [go_sem, ↓reduceIte, hro, hr, h3]
      refine (waits_spec G s.q u t _ (hv.up (sub_upd (sub_upd (sub_upd (sub_refl H4) h4 _) h3.2.2 _) hr.2.2.2.2 _)) hq hl).mono ?_
      rintro _ H1 ⟨rfl, rfl⟩
      cases hw : waitsB s.q t with
      | true =>
        rw [show beginL s t a c = (ZPS, 7) by rw [beginL, if_neg (by simp [hm]), if_neg (by omega), if_pos hw]]
        simp (disch := omega) only [go_sem, ↓reduceIte, hro, hr, h3]
        exact DFin.sub (by repeat (first | assumption | exact sub_refl _ | refine sub_upd ?_ (by assumption) _)) (DFin.refl (OwnR1.zero _ _))
      | false =>
        cases hlo : s.locked with
        | true =>
          rw [show beginL s t a c = (ZPS, 8) by rw [beginL, if_neg (by simp [hm]), if_neg (by omega), if_neg (by simp [hw]), if_pos hlo]]
          simp (disch := omega) only [go_sem, ↓reduceIte, hro, hr, h3]
          exact DFin.sub (by repeat (first | assumption | exact sub_refl _ | refine sub_upd ?_ (by assumption) _)) (DFin.refl (OwnR1.zero _ _))
        | false =>
          rw [show beginL s t a c = (⟨true, t, s.q⟩, 0) by rw [beginL, if_neg (by simp [hm]), if_neg (by omega), if_neg (by simp [hw]), if_neg (by simp [hlo])]]
          simp (disch := omega) only [go_sem, ↓reduceIte, hro, hr, h3, hu4.cell1.2]
          refine DFin.sub (H' := H4) (fun b o hb => ?_) (DFin.refl ?_)
          case refine_2 => exact ⟨u, rfl, hu4⟩
          have e1 : b ≠ r := none_ne hr.2.2.2.2 hb
          have e2 : b ≠ ro := none_ne h3.2.2 hb
          have e3 : b ≠ rb := none_ne h4 hb
          simp [upd, e1, e2, e3, hb]

def leaveL (s : PS) (t : Int) : PS × Int := if mayS s = false then (ZPS, 2) else if (removeL s.q t).2 ≠ 0 then (ZPS, (removeL s.q t).2) else (⟨s.locked, s.owner, (removeL s.q t).1⟩, 0)
def newL (n : Int) : PS × Int := if 0 ≤ n ∧ n ≤ 8 then (⟨false, 0, List.replicate n.toNat []⟩, 0) else (ZPS, 4)
def dR1 (s : PS) (e : Int) : DVal := .tuple [dPS s, dI e]
theorem DLe.nilQ (a b : DVal) : DLe (.agg [a, b, .nilSlice]) (.agg [a, b, dIss []]) := DLe.agg (.cons (.refl _) (.cons (.refl _) (.cons .nilIss .nil)))
theorem dR1_zero (e : Int) : DLe (.tuple [.agg [.bool false, dI 0, .nilSlice], dI e]) (dR1 ZPS e) := DLe.tuple (.cons (.nilQ _ _) (.refl _))
theorem lnew_spec (G : Nat → DVal) (n : Int) (H : DHeap) : DCalls Try.prog G 6 [dI n] H (DRet (dR1 (newL n).1 (newL n).2) H) := by
  refine dcalls_intro Try.func6 Try.call6 rfl (by kernel_rfl) ?_
  simp (disch := omega) only [go_sem, ↓reduceIte]
  intro rb hrb; dsimp only at hrb
  simp (disch := omega) only [go_sem, ↓reduceIte]
  refine (new_spec G n _).mono ?_
  rintro _ H1 ⟨rfl, rfl⟩
  by_cases h : 0 ≤ n ∧ n ≤ 8
  · rw [newD, if_pos h, newL, if_pos h]
    simp (disch := omega) only [go_sem, ↓reduceIte, hrb]
    exact DFin.dropA rb hrb (DFin.refl ⟨rfl, rfl⟩)
  · rw [newD, if_neg h, newL, if_neg h]
    simp (disch := omega) only [go_sem, ↓reduceIte, hrb]
    exact DFin.dropA rb hrb (DFin.le (dR1_zero _) (DFin.refl ⟨rfl, rfl⟩))
end Go.Dl

-- lock: release, finish, End, Wait.
namespace Go.Dl
open Go Go.Proofs
set_option maxRecDepth 10000

/-- The same rows over less. -/
theorem OwnV.rebase {e : TypeId} {H B H1 : DHeap} {l : List Int} {v : DVal} (h : OwnV e B l v H1) (hs : ∀ r o, H r = some o → B r = some o) :
    ∃ H2, OwnV e H l v H2 ∧ (∀ r o, H2 r = some o → H1 r = some o) ∧ ∀ b, H2 b ≠ none → H b ≠ none ∨ B b = none := by
  rcases h with ⟨rfl, rfl, rfl⟩ | ⟨r, pre, lo, rest, hr, rfl, hlo, rfl⟩
  · exact ⟨H, .inl ⟨rfl, rfl, rfl⟩, hs, fun b hb => .inl hb⟩
  · refine ⟨_, .inr ⟨r, pre, lo, rest, sub_none hs hr, rfl, hlo, rfl⟩, fun b o hb => ?_, fun b hb => ?_⟩
    · simp only [upd] at hb ⊢
      split at hb
      · rename_i h1; rw [if_pos h1]; exact hb
      · rename_i h1; rw [if_neg h1]; exact hs b o hb
    · simp only [upd] at hb
      split at hb
      · rename_i h1; subst h1; exact .inr hr
      · exact .inl hb
theorem OwnRows.rebase {e : TypeId} {H B : DHeap} (hs : ∀ r o, H r = some o → B r = some o) : ∀ {q : List (List Int)} {vs : List DVal} {H1 : DHeap}, OwnRows e B q vs H1 →
    ∃ H2, OwnRows e H q vs H2 ∧ (∀ r o, H2 r = some o → H1 r = some o) ∧ ∀ b, H2 b ≠ none → H b ≠ none ∨ B b = none
  | [], vs, H1, h => by
    obtain ⟨rfl, rfl⟩ := h
    exact ⟨H, ⟨rfl, rfl⟩, hs, fun b hb => .inl hb⟩
  | l :: q, vs, H1, h => by
    obtain ⟨v, vs', H3, rfl, h1, h2⟩ := h
    obtain ⟨H4, k1, k2, k3⟩ := h1.rebase hs
    obtain ⟨H5, m1, m2, m3⟩ := h2.rebase k2
    refine ⟨H5, ⟨v, vs', H4, rfl, k1, m1⟩, m2, fun b hb => ?_⟩
    rcases m3 b hb with h | h
    · exact k3 b h
    · exact .inr (sub_none h1.sub h)
theorem OwnLL.rebase {e e' : TypeId} {H B H1 : DHeap} {q : List (List Int)} {v : DVal} (h : OwnLL e e' B q v H1) (hs : ∀ r o, H r = some o → B r = some o) :
    ∃ H2, OwnLL e e' H q v H2 ∧ (∀ r o, H2 r = some o → H1 r = some o) ∧ ∀ b, H2 b ≠ none → H b ≠ none ∨ B b = none := by
  rcases h with ⟨rfl, rfl, rfl⟩ | ⟨ro, vs, H3, h1, h2, rfl, rfl⟩
  · exact ⟨H, .inl ⟨rfl, rfl, rfl⟩, hs, fun b hb => .inl hb⟩
  · obtain ⟨H4, k1, k2, k3⟩ := h1.rebase hs
    refine ⟨_, .inr ⟨ro, vs, H4, k1, sub_none k2 h2, rfl, rfl⟩, fun b o hb => ?_, fun b hb => ?_⟩
    · simp only [upd] at hb ⊢
      split at hb
      · rename_i h1; rw [if_pos h1]; exact hb
      · rename_i h1; rw [if_neg h1]; exact k2 b o hb
    · simp only [upd] at hb
      split at hb
      · rename_i h3; subst h3; exact .inr (sub_none h1.sub h2)
      · exact k3 b hb
theorem Loose.rebase {H B H1 H2 : DHeap} (h : Loose B H1) (hs : ∀ r o, H2 r = some o → H1 r = some o) (hn : ∀ b, H2 b ≠ none → H b ≠ none ∨ B b = none) (hH : ∀ r o, H r = some o → H2 r = some o) : Loose H H2 := fun r o ho => by
  rcases hn r (by simp [ho]) with h1 | h1
  · cases e : H r with
    | none => exact absurd e h1
    | some o' => have := hH r o' e; rw [ho] at this; cases this; exact .inl rfl
  · rcases h r o (hs r o ho) with h2 | h2
    · rw [h1] at h2; cases h2
    · exact .inr h2

def releaseL (q : List (List Int)) (o : List Bool) : PS × Bool × Int × Int := match openP q o with
  | none => (⟨false, 0, q⟩, false, 0, 0)
  | some p => (⟨true, p.2, (takeL q p.1).1⟩, true, p.2, p.1)
def dH (h : Bool × Int × Int) : DVal := .agg [.bool h.1, dI h.2.1, dI h.2.2]
/-- What is handed over, the object over rows of its own. -/
def RelR (s : PS) (h : Bool × Int × Int) (r : Nat) (H : DHeap) (x : DEnd) (H' : DHeap) : Prop := x = .ret (dH h) ∧ OwnObj H s r H'

theorem release_spec (G : Nat → DVal) (lo : Bool) (ow : Int) (q : List (List Int)) (o : List Bool) (r : Nat) (u : DVal) (H H1 : DHeap) (hm : mayQ q = true) (hu : OwnLL 3 27 H q u H1) (huL : Loose H H1) (hr : H1 r = none) (ho : o.length ≤ 1099511627776) :
    DCalls Try.prog G 29 [.optr r 0, dBs o] (upd H1 r (some (.cells [.bool lo, dI ow, u] 71))) (RelR (releaseL q o).1 (releaseL q o).2 r H) := by
  have hq := mayQ_len hm
  have hl : ∀ l ∈ q, l.length ≤ 1000000000 := fun l h => by have := mayQ_row hm h; omega
  have hl' : ∀ l ∈ q, l.length ≤ 1099511627776 := fun l h => by have := mayQ_row hm h; omega
  have hv := hu.views
  refine dcalls_intro Try.func29 Try.call29 rfl (by kernel_rfl) ?_
  simp (disch := omega) only [go_sem, ↓reduceIte, dBs]
  intro rc hrc; dsimp only at hrc
  rw [upd_eq_none] at hrc
  simp (disch := omega) only [go_sem, ↓reduceIte, hrc]
  have hHc := hrc.2.2
  refine (open_lent G q u _ (hv.up ?sub) (by omega) o hl' ho).mono ?_
  case sub => exact (by repeat (first | assumption | exact sub_refl _ | refine sub_upd ?_ (by assumption) _))
  rintro _ H2 ⟨rfl, rfl⟩
  cases hp : openP q o with
  | none =>
    rw [openD, if_pos hm, releaseL, hp]
    simp (disch := omega) only [go_sem, ↓reduceIte, hrc]
    refine DFin.sub (H' := upd H1 r (some (.cells [.bool false, dI 0, u] 71))) (fun b o hb => ?_) (DFin.refl ⟨rfl, u, H1, hu, huL, hr, rfl⟩)
    simp only [upd] at hb ⊢
    by_cases e1 : b = rc
    · subst e1; simp [hrc.1, hHc] at hb
    · by_cases e2 : b = r
      · subst e2; simpa [e1, dI] using hb
      · simpa [e1, e2] using hb
  | some p =>
    rw [openD, if_pos hm, releaseL, hp]
    simp (disch := omega) only [go_sem, ↓reduceIte, hrc]
    refine (take_lent G q u _ (hv.up ?sub) (by omega) p.1 hl).mono ?_
    case sub => exact (by repeat (first | assumption | exact sub_refl _ | refine sub_upd ?_ (by assumption) _))
    rintro _ H2 ⟨u2, rfl, hu2, hu2L⟩
    have hk : ∀ (b : Nat) (ob : DObj), upd (upd (upd (upd H1 r (some (.cells [.bool lo, dI ow, u] 71))) rc (some (.cells [.bool false, dI 0, dI 0] 48))) r (some (.cells [.bool false, dI 0, u] 71))) r (some (.cells [.bool false, dI 0, u] 71)) b = some ob → H2 b = some ob := fun b ob hb => hu2.sub b ob (by rw [upd_upd] at hb; exact hb)
    have hk1 : H2 r = some (.cells [.bool false, dI 0, u] 71) := hk r _ (upd_same _ _ _)
    have hk2 : H2 rc = some (.cells [.bool false, dI 0, dI 0] 48) := hk rc _ (by simp [upd, hrc.1])
    simp (disch := omega) only [go_sem, ↓reduceIte, hrc, hk1, hk2, hu2.cell1.1, hu2.cell1.2]
    obtain ⟨H3, g1, g2, g3⟩ := hu2.rebase (H := H) (fun b ob hb => by
      have h1 := hu.sub b ob hb
      have e1 : b ≠ rc := none_ne hHc h1
      have e2 : b ≠ r := none_ne hr h1
      simp [upd, e1, e2, h1])
    have hr0 : H r = none := sub_none hu.sub hr
    have hr3 : H3 r = none := by
      cases e : H3 r with
      | none => rfl
      | some ob =>
        rcases g3 r (by simp [e]) with h | h
        · exact absurd hr0 h
        · simp [upd] at h
    have hg2 : ∀ (b : Nat) (ob : DObj), H3 b = some ob → H2 b = some ob ∧ b ≠ r ∧ b ≠ rc := fun b ob hb => by
      refine ⟨g2 b ob hb, none_ne hr3 hb, fun e => ?_⟩
      subst e
      rcases g3 b (by simp [hb]) with h | h
      · exact h (sub_none hu.sub hHc)
      · simp [upd, hrc.1] at h
    refine DFin.sub (H' := upd H3 r (some (.cells [.bool true, dI p.2, u2] 71))) (fun b ob hb => ?_) (DFin.refl ⟨rfl, u2, H3, g1, hu2L.rebase g2 g3 g1.sub, hr3, rfl⟩)
    simp only [upd] at hb ⊢
    by_cases e1 : b = r
    · subst e1
      have : b ≠ rc := hrc.2.1
      simpa [this, dI] using hb
    · rw [if_neg e1] at hb
      obtain ⟨h1, _, h3⟩ := hg2 b ob hb
      simp [e1, h3, h1]
end Go.Dl

-- lock: finish, End, Wait.
namespace Go.Dl
open Go Go.Proofs
set_option maxRecDepth 10000

theorem OwnLL.frame {e e' : TypeId} {H H1 : DHeap} {q : List (List Int)} {v : DVal} (h : OwnLL e e' H q v H1) {r : Nat} (hr : H1 r = none) (o : DObj) : OwnLL e e' (upd H r (some o)) q v (upd H1 r (some o)) := by
  rcases h with ⟨rfl, rfl, rfl⟩ | ⟨ro, vs, H2, h1, h2, rfl, rfl⟩
  · exact .inl ⟨rfl, rfl, rfl⟩
  · rw [upd_eq_none] at hr
    exact .inr ⟨ro, vs, _, (h1.frame hr.2.2 o).1, by simp [upd, hr, h2], rfl, upd_swap hr.1 _ _ _⟩
theorem Loose.frame {H H1 : DHeap} (h : Loose H H1) (r : Nat) (o : DObj) : Loose (Dl.upd H r (some o)) (Dl.upd H1 r (some o)) := fun b p hb => by
  simp only [Dl.upd] at hb ⊢
  split at hb
  · rename_i e; rw [if_pos e]; exact .inl hb
  · rename_i e; rw [if_neg e]; exact h b p hb
theorem OwnObj.frame {H H' : DHeap} {s : PS} {r : Nat} (h : OwnObj H s r H') {ra : Nat} (hr : H' ra = none) (o : DObj) : OwnObj (upd H ra (some o)) s r (upd H' ra (some o)) := by
  obtain ⟨u, H1, h1, h2, h3, rfl⟩ := h
  rw [upd_eq_none] at hr
  exact ⟨u, _, h1.frame hr.2.2 o, h2.frame ra o, by simp [upd, hr, h3], upd_swap hr.1 _ _ _⟩
theorem OwnObj.unframe {H H' : DHeap} {s : PS} {r ra : Nat} {o : DObj} (h : OwnObj (upd H ra (some o)) s r H') (hr : H ra = none) : ∃ H2, OwnObj H s r H2 ∧ H' = upd H2 ra (some o) ∧ H2 ra = none := by
  obtain ⟨u, H1, h1, h2, h3, rfl⟩ := h
  obtain ⟨H3, k1, rfl, k3⟩ := h1.unframe hr
  rw [upd_eq_none] at h3
  have hL : Loose H H3 := by
    have := h2.unframe
    rwa [upd_none_self k3] at this
  exact ⟨_, ⟨u, H3, k1, hL, h3.2.2, rfl⟩, (upd_swap h3.2.1 _ _ _).symm ▸ rfl, by simp [upd, h3.2.1, k3]⟩
theorem OwnObj.sub {H H' : DHeap} {s : PS} {r : Nat} (h : OwnObj H s r H') : ∀ b o, H b = some o → H' b = some o := by
  obtain ⟨u, H1, h1, h2, h3, rfl⟩ := h
  exact sub_upd h1.sub (sub_none h1.sub h3) _
theorem OwnObj.at {H H' : DHeap} {s : PS} {r : Nat} (h : OwnObj H s r H') : ∃ u, H' r = some (.cells [.bool s.locked, dI s.owner, u] 71) ∧ u.cells = [u] ∧ u.one = true ∧ Views H' u s.q ∧ H r = none := by
  obtain ⟨u, H1, h1, h2, h3, rfl⟩ := h
  exact ⟨u, upd_same _ _ _, h1.cell1.1, h1.cell1.2, h1.views.up (sub_upd (sub_refl H1) h3 _), sub_none h1.sub h3⟩

/-- A state, over rows of the call's own, what is handed over, and an error. -/
def OwnR2 (s : PS) (h : Bool × Int × Int) (e : Int) (H : DHeap) (x : DEnd) (H' : DHeap) : Prop := ∃ u, x = .ret (.tuple [.agg [.bool s.locked, dI s.owner, u], dH h, dI e]) ∧ OwnLL 3 27 H s.q u H' ∧ Loose H H'
def ZH : Bool × Int × Int := (false, 0, 0)
theorem Loose.down {H H5 : DHeap} {r : Nat} {o o2 : Option DObj} (h : Loose (Dl.upd H r o) (Dl.upd H5 r o2)) (h5 : H5 r = none) : Loose H H5 := fun b p hb => by
  have hne : b ≠ r := fun e => by rw [e, h5] at hb; cases hb
  have := h b p (by rw [upd_ne _ _ _ _ hne]; exact hb)
  rw [upd_ne _ _ _ _ hne] at this; exact this
theorem OwnR2.zero (e : Int) (H : DHeap) : OwnR2 ZPS ZH e H (.ret (.tuple [.agg [.bool false, dI 0, .nilSlice], .agg [.bool false, dI 0, dI 0], dI e])) H := ⟨_, rfl, .nil _ _ _, .refl _⟩

def finishL (s s1 : PS) (o : List Bool) : PS × (Bool × Int × Int) × Int :=
  if s.locked = false then (ZPS, ZH, 8) else ((releaseL s1.q o).1, (releaseL s1.q o).2, 0)

theorem finish_spec (G : Nat → DVal) (s s1 : PS) (k : Nat) (cap : List DVal) (o : List Bool) (r : Nat) (H H' : DHeap) (ho : o.length ≤ 1099511627776) (hobj : OwnObj H s r H') (hm1 : s.locked = true → mayQ s1.q = true)
    (hf : ∀ B B', (∀ b ob, H b = some ob → B b = some ob) → OwnObj B s r B' → s.locked = true → DCalls Try.prog G k cap B' fun x B'' => x = .ret (.tuple []) ∧ OwnObj B s1 r B'') :
    DCalls Try.prog G 27 [.optr r 0, .func (.func k) [] cap, .func (.func 29) [.optr r 0] [], dBs o] H' (OwnR2 (finishL s s1 o).1 (finishL s s1 o).2.1 (finishL s s1 o).2.2 H) := by
  refine dcalls_intro Try.func27 Try.call27 rfl (by kernel_rfl) ?_
  simp (disch := omega) only [go_sem, ↓reduceIte, dBs]
  intro ra hra; dsimp only at hra
  simp (disch := omega) only [go_sem, ↓reduceIte]
  intro rb hrb; dsimp only at hrb
  rw [upd_eq_none] at hrb
  simp (disch := omega) only [go_sem, ↓reduceIte, hrb]
  obtain ⟨u, hu, huc, huo, huv, hr0⟩ := hobj.at
  have hrr : r ≠ ra := none_ne hra hu
  have hrr2 : r ≠ rb := none_ne hrb.2.2 hu
  cases hlo : s.locked with
  | false =>
    rw [show finishL s s1 o = (ZPS, ZH, 8) by simp [finishL, hlo]]
    rw [hlo] at hu
    have hsub := hobj.sub
    have h1 := sub_none hsub hra
    have h2 := sub_none hsub hrb.2.2
    simp (disch := omega) only [go_sem, ↓reduceIte, hrb, hu, hrr, hrr2, hrr.symm, hrr2.symm]
    exact DFin.sub (by repeat (first | assumption | exact sub_refl _ | refine sub_upd ?_ (by assumption) _)) (DFin.refl (OwnR2.zero _ _))
  | true =>
    rw [show finishL s s1 o = ((releaseL s1.q o).1, (releaseL s1.q o).2, 0) by simp [finishL, hlo]]
    rw [hlo] at hu
    simp (disch := omega) only [go_sem, ↓reduceIte, hrb, hu, hrr, hrr2, hrr.symm, hrr2.symm]
    have hob2 := (hobj.frame hra (.cells [.bool false, dI 0, .nilSlice] 36)).frame (ra := rb) (by simp [upd, hrb]) (.cells [.bool false, dI 0, dI 0] 48)
    refine (hf _ _ ?sub hob2 hlo).mono ?_
    case sub =>
      have h1 := sub_none hobj.sub hra
      have h2 := sub_none hobj.sub hrb.2.2
      exact (by repeat (first | assumption | exact sub_refl _ | refine sub_upd ?_ (by assumption) _))
    rintro _ H2 ⟨rfl, u1, H3, k1, k2, k3, rfl⟩
    simp (disch := omega) only [go_sem, ↓reduceIte]
    refine (release_spec G s1.locked s1.owner s1.q o r u1 _ H3 (hm1 hlo) k1 k2 k3 ho).mono ?_
    rintro _ H4 ⟨rfl, hob4⟩
    simp (disch := omega) only [go_sem, ↓reduceIte, dH]
    intro rd hrd; dsimp only at hrd
    obtain ⟨H5, m1, rfl, m3⟩ := hob4.unframe (by simp [upd, hrb]; exact sub_none hobj.sub hrb.2.2)
    obtain ⟨H6, n1, rfl, n3⟩ := m1.unframe (sub_none hobj.sub hra)
    obtain ⟨u2, H7, p1, p2, p3, rfl⟩ := n1
    simp only [upd_eq_none] at hrd m3 n3
    simp (disch := omega) only [go_sem, ↓reduceIte, hrd, m3, n3]
    refine dwp_draws (by kernel_rfl) (.take 0 (.take 1 (.take 2 (.take 3 (.take 4 (.go 5 [4] (.go 6 [] (.take 7 .done)))))))) (by kernel_rfl) ?_
    simp (disch := omega) only [go_sem, ↓reduceIte, hrd, m3, n3, p1.cell1.2]
    have h7a := n3.2.2
    have h7b := m3.2.2.2.2
    have h7d := hrd.2.2.2.2.2.2
    exact DFin.sub (H' := H7) (by repeat (first | assumption | exact sub_refl _ | refine sub_upd ?_ (by assumption) _)) (DFin.refl ⟨u2, rfl, p1, p2⟩)

theorem end1_spec (G : Nat → DVal) (H : DHeap) : DCalls Try.prog G 28 [] H (DRet (.tuple []) H) := by
  refine dcalls_intro Try.func28 Try.call28 rfl (by kernel_rfl) ?_
  simp (disch := omega) only [go_sem, ↓reduceIte]
  exact DFin.refl ⟨rfl, rfl⟩

def endL (s : PS) (o : List Bool) : PS × (Bool × Int × Int) × Int := if mayS s = false then (ZPS, ZH, 2) else finishL s s o
theorem end_spec (G : Nat → DVal) (s : PS) (o : List Bool) (H : DHeap) (hq : s.q.length ≤ 1099511627776) (hl : ∀ l ∈ s.q, l.length ≤ 1099511627776) (ho : o.length ≤ 1099511627776) :
    DCalls Try.prog G 13 [dPS s, dBs o] H (OwnR2 (endL s o).1 (endL s o).2.1 (endL s o).2.2 H) := by
  refine dcalls_intro Try.func13 Try.call13 rfl (by kernel_rfl) ?_
  simp (disch := omega) only [go_sem, ↓reduceIte, dBs]
  intro rx hrx; dsimp only at hrx
  simp (disch := omega) only [go_sem, ↓reduceIte]
  intro ra hra; dsimp only at hra
  rw [upd_eq_none] at hra
  simp (disch := omega) only [go_sem, ↓reduceIte, hra]
  intro rb hrb; dsimp only at hrb
  simp only [upd_eq_none] at hrb
  have h2 := hra.2.2
  have h3 := hrb.2.2.2.2
  have hsub := sub_refl H
  simp (disch := omega) only [go_sem, ↓reduceIte, hra, hrb]
  refine (lopen_spec G s _ hq hl).mono ?_
  rintro _ H1 (⟨hm, rfl, rfl⟩ | ⟨hm, r, rfl, hob⟩)
  · rw [show endL s o = (ZPS, ZH, 2) by simp [endL, hm]]
    simp (disch := omega) only [go_sem, ↓reduceIte, hra, hrb]
    exact DFin.sub (by repeat (first | assumption | exact sub_refl _ | refine sub_upd ?_ (by assumption) _)) (DFin.refl (OwnR2.zero _ _))
  · rw [show endL s o = finishL s s o by simp [endL, hm]]
    simp (disch := omega) only [go_sem, ↓reduceIte]
    refine (finish_spec G s s 28 [] o r _ H1 ho hob (fun _ => mayS_q hm) (fun B B' _ hB _ => (end1_spec G B').mono fun x H' ⟨h1, h2⟩ => ⟨h1, by rw [h2]; exact hB⟩)).mono ?_
    rintro _ H2 ⟨u, rfl, hu, hlo⟩
    obtain ⟨H3, k1, rfl, k3⟩ := hu.unframe (by simp [upd, hra, hrb])
    obtain ⟨H4, m1, rfl, m3⟩ := k1.unframe (by simp [upd, hra])
    obtain ⟨H5, n1, rfl, n3⟩ := m1.unframe hrx
    have hlo := ((hlo.down k3).down m3).down n3
    simp only [upd_eq_none] at k3 m3
    simp (disch := omega) only [go_sem, ↓reduceIte, k3, m3, n3, dH, m1.cell1.2, n1.cell1.2]
    have h5a := m3.2.2
    have h5b := k3.2.2.2.2
    exact DFin.sub (H' := H5) (by repeat (first | assumption | exact sub_refl _ | refine sub_upd ?_ (by assumption) _)) (DFin.refl ⟨u, rfl, n1, hlo⟩)
end Go.Dl

-- lock: Wait.
namespace Go.Dl
open Go Go.Proofs
set_option maxRecDepth 10000

theorem OwnObj.len {H H' : DHeap} {s : PS} {r : Nat} {u : DVal} (h : OwnObj H s r H') (hu : H' r = some (.cells [.bool s.locked, dI s.owner, u] 71)) (e : TypeId) (dst : Option Nat) (K : DK) (st : DS) :
    dLen dst (some (.slice e)) u K st = dput dst (dI s.q.length) K st := by
  obtain ⟨u', H1, h1, h2, h3, rfl⟩ := h
  rw [upd_same] at hu
  cases hu
  rcases h1 with ⟨h1, rfl, _⟩ | ⟨ro, vs, H2, _, _, rfl, _⟩
  · rw [h1]; rfl
  · rfl
/-- The object gets other rows. -/
theorem OwnObj.turn {B B2 H2 : DHeap} {q : List (List Int)} {u : DVal} {r : Nat} (hr : B r = none) (hr2 : B2 r ≠ none) (hs : ∀ b o, B b = some o → B2 b = some o) (hu : OwnLL 3 27 B2 q u H2) (hL : Loose B2 H2) (lo : Bool) (ow : Int) :
    ∃ B3, OwnObj B ⟨lo, ow, q⟩ r B3 ∧ ∀ b ob, B3 b = some ob → upd H2 r (some (.cells [.bool lo, dI ow, u] 71)) b = some ob := by
  obtain ⟨H3, g1, g2, g3⟩ := hu.rebase hs
  have hr3 : H3 r = none := by
    cases e : H3 r with
    | none => rfl
    | some ob =>
      rcases g3 r (by simp [e]) with h | h
      · exact absurd hr h
      · exact absurd h hr2
  refine ⟨upd H3 r (some (.cells [.bool lo, dI ow, u] 71)), ⟨u, H3, g1, hL.rebase g2 g3 g1.sub, hr3, rfl⟩, fun b ob hb => ?_⟩
  simp only [upd] at hb ⊢
  split at hb
  · rename_i e; rw [if_pos e]; exact hb
  · rename_i e; rw [if_neg e]; exact g2 b ob hb

def waitS (s : PS) (n : Nat) : PS := ⟨s.locked, s.owner, (putL s.q n s.owner).1⟩
def Wait1R (s : PS) (n r : Nat) (B : DHeap) (x : DEnd) (B' : DHeap) : Prop := x = .ret (.tuple []) ∧ OwnObj B (waitS s n) r B'
theorem wait1_spec (G : Nat → DVal) (s : PS) (n : Nat) (r r9 r4 : Nat) (B B' : DHeap) (hm : mayS s = true) (hob : OwnObj B s r B') (h9 : B r9 = some (.cells [.optr r 0] 65)) (h4 : B r4 = some (.cells [dI n] 3)) :
    DCalls Try.prog G 30 [.optr r9 0, .optr r4 0] B' (Wait1R s n r B) := by
  obtain ⟨u, hu, huc, huo, huv, hr0⟩ := hob.at
  have k9 := hob.sub _ _ h9
  have k4 := hob.sub _ _ h4
  have hmq := mayS_q hm
  refine dcalls_intro Try.func30 Try.call30 rfl (by kernel_rfl) ?_
  simp (disch := omega) only [go_sem, ↓reduceIte]
  refine dwp_draws (by kernel_rfl) (.take 0 (.take 1 (.take 2 (.take 3 (.take 4 (.take 5 (.take 6 (.take 7 (.take 8 (.take 9 (.take 10 (.take 11 (.go 12 [0] (.take 13 (.take 14 (.take 15 (.take 16 (.take 17 (.take 18 (.go 19 [] .done)))))))))))))))))))) (by kernel_rfl) ?_
  simp (disch := omega) only [go_sem, ↓reduceIte, k9, k4, hu]
  refine (put_lent G s.q u _ huv (by have := mayQ_len hmq; omega) n s.owner (fun l h => by have := mayQ_row hmq h; omega)).mono ?_
  rintro _ H2 ⟨u2, rfl, hu2, huL⟩
  have j9 := hu2.sub _ _ k9
  have j4 := hu2.sub _ _ k4
  have ju := hu2.sub _ _ hu
  simp (disch := omega) only [go_sem, ↓reduceIte, KeepK, j9, j4, ju, k9, k4, hu, hu2.cell1.1, hu2.cell1.2]
  obtain ⟨B3, g1, g2⟩ := OwnObj.turn hr0 (by rw [hu]; simp) hob.sub hu2 huL s.locked s.owner
  refine DFin.sub g2 (DFin.refl ?_)
  exact ⟨rfl, g1⟩

def waitL (s : PS) (n : Int) (o : List Bool) : PS × (Bool × Int × Int) × Int :=
  if mayS s = false then (ZPS, ZH, 2) else if ¬ (0 ≤ n ∧ n < s.q.length) then (ZPS, ZH, 4) else finishL s (waitS s n.toNat) o
theorem mayS_locked {s : PS} (h : mayS s = true) (hl : s.locked = true) : mayQ s.q = true ∧ (0 ≤ s.owner ∧ s.owner < 32) ∧ s.owner ∉ s.q.flatten := by
  unfold mayS at h
  rw [hl] at h
  simp only [if_true, Bool.and_eq_true, isTask, decide_eq_true_eq, Bool.not_eq_true', decide_eq_false_iff_not] at h
  exact ⟨h.1, h.2.1, h.2.2⟩
theorem waitS_may {s : PS} {n : Nat} (h : mayS s = true) (hn : n < s.q.length) (hl : s.locked = true) : mayQ (waitS s n).q = true := by
  obtain ⟨h1, h2, h3⟩ := mayS_locked h hl
  have hg : s.q.getD n [] = s.q[n] := by simp [hn]
  unfold waitS
  rw [putL_eq h1 h2, if_neg (by omega), if_neg h3, hg]
  exact mayQ_put h1 hn h2 h3
theorem wait_spec (G : Nat → DVal) (s : PS) (n : Int) (o : List Bool) (H : DHeap) (hq : s.q.length ≤ 1099511627776) (hl : ∀ l ∈ s.q, l.length ≤ 1099511627776) (ho : o.length ≤ 1099511627776) :
    DCalls Try.prog G 15 [dPS s, dI n, dBs o] H (OwnR2 (waitL s n o).1 (waitL s n o).2.1 (waitL s n o).2.2 H) := by
  refine dcalls_intro Try.func15 Try.call15 rfl (by kernel_rfl) ?_
  simp (disch := omega) only [go_sem, ↓reduceIte, dBs]
  intro rx hrx; dsimp only at hrx
  simp (disch := omega) only [go_sem, ↓reduceIte]
  intro ry hry; dsimp only at hry
  rw [upd_eq_none] at hry
  simp (disch := omega) only [go_sem, ↓reduceIte, hry]
  intro ra hra; dsimp only at hra
  simp only [upd_eq_none] at hra
  simp (disch := omega) only [go_sem, ↓reduceIte, hry, hra]
  intro rb hrb; dsimp only at hrb
  simp only [upd_eq_none] at hrb
  have h1 := hry.2.2
  have h2 := hra.2.2.2.2
  have h3 := hrb.2.2.2.2.2.2
  have hsub := sub_refl H
  simp (disch := omega) only [go_sem, ↓reduceIte, hry, hra, hrb]
  refine (lopen_spec G s _ hq hl).mono ?_
  rintro _ H1 (⟨hm, rfl, rfl⟩ | ⟨hm, r, rfl, hob⟩)
  · rw [show waitL s n o = (ZPS, ZH, 2) by simp [waitL, hm]]
    simp (disch := omega) only [go_sem, ↓reduceIte]
    intro rz hrz; dsimp only at hrz
    simp only [upd_eq_none] at hrz
    have h4 := hrz.2.2.2.2.2.2.2.2
    simp (disch := omega) only [go_sem, ↓reduceIte, hry, hra, hrb, hrz]
    exact DFin.sub (by repeat (first | assumption | exact sub_refl _ | refine sub_upd ?_ (by assumption) _)) (DFin.refl (OwnR2.zero _ _))
  · simp (disch := omega) only [go_sem, ↓reduceIte]
    intro rz hrz; dsimp only at hrz
    have hyy := hob.sub ry _ (by simp [upd, hry, hra, hrb]; rfl)
    have haa := hob.sub ra _ (by simp [upd, hry, hra, hrb]; rfl)
    have hbb := hob.sub rb _ (by simp [upd, hry, hra, hrb]; rfl)
    obtain ⟨u, hu, huc, huo, huv, hr0⟩ := hob.at
    have hsub0 : ∀ b ob, H b = some ob → H1 b = some ob := fun b ob hb => hob.sub b ob (((by repeat (first | assumption | exact sub_refl _ | refine sub_upd ?_ (by assumption) _)) : ∀ b ob, H b = some ob → upd (upd (upd (upd H rx _) ry _) ra _) rb _ b = some ob) b ob hb)
    have hzn : H rz = none := sub_none hsub0 hrz
    have hzr : r ≠ rz := none_ne hrz hu
    have hzy : ry ≠ rz := none_ne hrz hyy
    have hza : ra ≠ rz := none_ne hrz haa
    have hzb : rb ≠ rz := none_ne hrz hbb
    simp (disch := omega) only [go_sem, ↓reduceIte, hry, hra, hrb, hzr, hzy, hza, hzb, hyy, haa, hbb]
    by_cases c1 : n < 0
    · rw [show waitL s n o = (ZPS, ZH, 4) by rw [waitL, if_neg (by simp [hm]), if_pos (by omega)]]
      refine dwp_draws (by kernel_rfl) (.take 0 (.take 1 (.take 2 (.take 3 (.take 4 (.take 5 (.take 6 (.take 7 (.take 8 (.take 9 (.take 10 (.take 11 (.take 12 .done))))))))))))) (by kernel_rfl) ?_
      simp (disch := omega) only [go_sem, ↓reduceIte, hry, hra, hrb, hzr, hzy, hza, hzb, hyy, haa, hbb]
      exact DFin.sub (by repeat (first | assumption | exact sub_refl _ | refine sub_upd ?_ (by assumption) _)) (DFin.refl (OwnR2.zero _ _))
    have hlen := hob.len hu
    by_cases c2 : (s.q.length : Int) ≤ n
    · rw [show waitL s n o = (ZPS, ZH, 4) by rw [waitL, if_neg (by simp [hm]), if_pos (by omega)]]
      refine dwp_draws (by kernel_rfl) (.take 0 (.take 1 (.take 2 (.take 3 (.take 4 (.take 5 (.take 6 (.take 7 (.take 8 (.take 9 (.take 10 (.take 11 (.take 12 .done))))))))))))) (by kernel_rfl) ?_
      simp (disch := omega) only [go_sem, ↓reduceIte, hry, hra, hrb, hzr, hzy, hza, hzb, hyy, haa, hbb, hu, hlen]
      exact DFin.sub (by repeat (first | assumption | exact sub_refl _ | refine sub_upd ?_ (by assumption) _)) (DFin.refl (OwnR2.zero _ _))
    · obtain ⟨m, rfl⟩ : ∃ m : Nat, n = m := ⟨n.toNat, by omega⟩
      have hmn : m < s.q.length := by omega
      rw [show waitL s m o = finishL s (waitS s m) o by rw [waitL, if_neg (by simp [hm]), if_neg (by omega), Int.toNat_natCast]]
      refine dwp_draws (by kernel_rfl) (.take 0 (.take 1 (.take 2 (.take 3 (.take 4 (.take 5 (.take 6 (.take 7 (.take 8 (.take 9 (.take 10 (.take 11 (.take 12 .done))))))))))))) (by kernel_rfl) ?_
      simp (disch := omega) only [go_sem, ↓reduceIte, hry, hra, hrb, hzr, hzy, hza, hzb, hyy, haa, hbb, hu, hlen]
      refine (finish_spec G s (waitS s m) 30 [.optr rz 0, .optr ry 0] o r _ _ ho (hob.frame hrz (.cells [.optr r 0] 65)) (waitS_may hm hmn) (fun B B' hBs hB hlo => wait1_spec G s m r rz ry B B' hm hB (hBs _ _ (upd_same _ _ _)) (hBs _ _ (by simp [upd, hzy, hry, hra, hrb])))).mono ?_
      rintro _ H2 ⟨u', rfl, hu', hlo'⟩
      obtain ⟨Hz, j1, rfl, j3⟩ := hu'.unframe (sub_none hob.sub hrz)
      obtain ⟨H3, k1, rfl, k3⟩ := j1.unframe (by simp [upd, hry, hra, hrb])
      obtain ⟨H4, m1, rfl, m3⟩ := k1.unframe (by simp [upd, hry, hra])
      obtain ⟨H5, n1, rfl, n3⟩ := m1.unframe (by simp [upd, hry])
      obtain ⟨H6, p1, rfl, p3⟩ := n1.unframe hrx
      have hlo6 := ((((hlo'.down j3).down k3).down m3).down n3).down p3
      simp only [upd_eq_none] at j3 k3 m3 n3
      simp (disch := omega) only [go_sem, ↓reduceIte, j3, k3, m3, n3, p3, dH, p1.cell1.2]
      have h6a := n3.2.2
      have h6b := m3.2.2.2.2
      have h6c := k3.2.2.2.2.2.2
      have h6d := j3.2.2.2.2.2.2.2.2
      exact DFin.sub (H' := H6) (by repeat (first | assumption | exact sub_refl _ | refine sub_upd ?_ (by assumption) _)) (DFin.refl ⟨u', rfl, p1, hlo6⟩)
end Go.Dl
