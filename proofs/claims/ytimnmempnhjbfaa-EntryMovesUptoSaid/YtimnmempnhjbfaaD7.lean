/-
  THE DATA LEVEL, PART 7: own memory seen as memory that lasts; calls that only look.
-/
import Derived.Test.YtimnmempnhjbfaaD6
set_option linter.unusedSimpArgs false
set_option linter.unusedVariables false
namespace Go.Dl
open Go Go.RowKit

mutual
/-- The value, with block r (its cells: cs) seen as memory that lasts. -/
def fz (r : Nat) (cs : List DVal) : DVal → DVal
  | .optr r' off => if r' = r then .vptr cs off else .optr r' off
  | .oslice sz r' off len lo => if r' = r then .vslice ((cs.drop off).take (len * sz)) len else .oslice sz r' off len lo
  | .func fn a c => .func fn (fzs r cs a) (fzs r cs c)
  | .iface t v => .iface t (fz r cs v)
  | .agg l => .agg (fzs r cs l)
  | .tuple l => .tuple (fzs r cs l)
  | .vptr l off => .vptr (fzs r cs l) off
  | .vslice l n => .vslice (fzs r cs l) n
  | d => d
def fzs (r : Nat) (cs : List DVal) : List DVal → List DVal
  | [] => []
  | d :: ds => fz r cs d :: fzs r cs ds
end

section
variable {P : Program} {G : Nat → DVal} {w : World} {H : DHeap}

theorem lasts_letGo (H : DHeap) (r : Nat) (w : World) : Lasts H w (upd H r none) w :=
  ⟨fun b i x hb hc => ⟨by simp only [upd]; split; rfl; exact hb, hc⟩, Nat.le_refl _, fun _ _ => rfl⟩

theorem own_cellsAt (hH : SimHeap w H) {r : Nat} {cs : List DVal} {e : TypeId} (hr : H r = some (.cells cs e)) : ∃ xs, RelL w (upd H r none) cs xs ∧ CellsAt w (upd H r none) r 0 xs := by
  obtain ⟨xs, hl, hh⟩ := hH.holds hr
  exact ⟨xs, hl.lasts (lasts_letGo H r w), .inr ⟨by simp [upd], fun i x hx => by simpa using hh i x hx⟩⟩

theorem CellsAt.part {b off : Nat} {xs : List Value} (h : CellsAt w H b off xs) (m n : Nat) : CellsAt w H b (off + m) ((xs.drop m).take n) := by
  rcases h with rfl | ⟨h1, h2⟩
  · exact .inl (by simp)
  · refine .inr ⟨h1, fun i x hx => ?_⟩
    have : xs[m + i]? = some x := by
      rw [List.getElem?_take] at hx
      split at hx
      · simpa using hx
      · cases hx
    have := h2 _ x this
    rwa [← Nat.add_assoc] at this

mutual
theorem fz_rel (hH : SimHeap w H) {r : Nat} {cs : List DVal} {e : TypeId} (hr : H r = some (.cells cs e)) : ∀ (d : DVal) (v : Value), Rel w H d v → Rel w (upd H r none) (fz r cs d) v
  | .optr r' off, v, h => by
    simp only [fz]
    split
    · rename_i e'; subst e'
      simp only [Rel] at h ⊢
      obtain ⟨xs, hl, hc⟩ := own_cellsAt hH hr
      exact ⟨r', 0, xs, by simpa using h, hc, hl⟩
    · simpa [Rel] using h
  | .oslice sz r' off len lo, v, h => by
    simp only [fz]
    split
    · rename_i e'; subst e'
      simp only [Rel] at h ⊢
      obtain ⟨o, cap, rfl, h1, h2, h3, h4⟩ := h
      obtain ⟨xs, hl, hc⟩ := own_cellsAt hH hr
      refine ⟨_, cap, rfl, h2, ?_⟩
      by_cases h0 : cap = 0
      · have : len = 0 := by omega
        subst this; left; simp
      · have ho : o = off := h3.resolve_left h0
        subst ho
        right
        refine ⟨r', o, (xs.drop o).take (len * sz), rfl, ?_, (hl.drop o).take _⟩
        have := hc.part o (len * sz)
        simpa using this
    · exact Rel.lasts (lasts_letGo H r w) _ _ h
  | .func fn a c, v, h => by
    simp only [Rel, fz] at h ⊢
    obtain ⟨xs, ys, rfl, h1, h2⟩ := h
    exact ⟨xs, ys, rfl, fzs_rel hH hr _ _ h1, fzs_rel hH hr _ _ h2⟩
  | .iface t d, v, h => by
    simp only [Rel, fz] at h ⊢
    obtain ⟨x, rfl, h1⟩ := h
    exact ⟨x, rfl, fz_rel hH hr _ _ h1⟩
  | .agg l, v, h => by
    simp only [Rel, fz] at h ⊢
    obtain ⟨x, rfl, h1⟩ := h
    exact ⟨x, rfl, fzs_rel hH hr _ _ h1⟩
  | .tuple l, v, h => by
    simp only [Rel, fz] at h ⊢
    obtain ⟨x, rfl, h1⟩ := h
    exact ⟨x, rfl, fzs_rel hH hr _ _ h1⟩
  | .raw x, v, h => by simp only [fz]; exact Rel.lasts (lasts_letGo H r w) _ _ h
  | .bool x, v, h => by simp only [fz]; exact Rel.lasts (lasts_letGo H r w) _ _ h
  | .int x y, v, h => by simp only [fz]; exact Rel.lasts (lasts_letGo H r w) _ _ h
  | .str x, v, h => by simp only [fz]; exact Rel.lasts (lasts_letGo H r w) _ _ h
  | .nilPtr, v, h => by simp only [fz]; exact Rel.lasts (lasts_letGo H r w) _ _ h
  | .vptr l off, v, h => by
    simp only [Rel, fz] at h ⊢
    obtain ⟨b, o, xs, rfl, h1, h2⟩ := h
    exact ⟨b, o, xs, rfl, h1.lasts (lasts_letGo H r w), fzs_rel hH hr _ _ h2⟩
  | .nilSlice, v, h => by simp only [fz]; exact Rel.lasts (lasts_letGo H r w) _ _ h
  | .vslice l n, v, h => by
    simp only [Rel, fz] at h ⊢
    obtain ⟨a, cap, rfl, hle, h1⟩ := h
    refine ⟨a, cap, rfl, hle, ?_⟩
    rcases h1 with h1 | ⟨b, o, xs, rfl, h1, h2⟩
    · subst h1; exact .inl rfl
    · exact .inr ⟨b, o, xs, rfl, h1.lasts (lasts_letGo H r w), fzs_rel hH hr _ _ h2⟩
  | .nilMap, v, h => by simp only [fz]; exact Rel.lasts (lasts_letGo H r w) _ _ h
  | .omap x, v, h => by simp only [fz]; exact Rel.lasts (lasts_letGo H r w) _ _ h
  | .nilFunc, v, h => by simp only [fz]; exact Rel.lasts (lasts_letGo H r w) _ _ h
  | .nilIface, v, h => by simp only [fz]; exact Rel.lasts (lasts_letGo H r w) _ _ h
theorem fzs_rel (hH : SimHeap w H) {r : Nat} {cs : List DVal} {e : TypeId} (hr : H r = some (.cells cs e)) : ∀ (ds : List DVal) (vs : List Value), RelL w H ds vs → RelL w (upd H r none) (fzs r cs ds) vs
  | [], vs, h => by simpa [fzs, RelL] using h
  | d :: ds, vs, h => by
    simp only [fzs, RelL] at h ⊢
    obtain ⟨y, ys, rfl, h1, h2⟩ := h
    exact ⟨y, ys, rfl, fz_rel hH hr _ _ h1, fzs_rel hH hr _ _ h2⟩
end

/-- A step of thought on a result. -/
def GhostE (H : DHeap) (v : DVal) (H' : DHeap) (v' : DVal) : Prop := ∀ w, SimHeap w H → SimHeap w H' ∧ (∀ b, H' b ≠ none → H b ≠ none) ∧ ∀ x, Rel w H v x → Rel w H' v' x

theorem GhostE.refl (H : DHeap) (v : DVal) : GhostE H v H v := fun _ h => ⟨h, fun _ h => h, fun _ h => h⟩
theorem GhostE.trans {H H' H'' : DHeap} {v v' v'' : DVal} (h : GhostE H v H' v') (k : GhostE H' v' H'' v'') : GhostE H v H'' v'' := fun w hw => by
  obtain ⟨h1, h2, h3⟩ := h w hw
  obtain ⟨k1, k2, k3⟩ := k w h1
  exact ⟨k1, fun b hb => h2 b (k2 b hb), fun x hx => k3 x (h3 x hx)⟩
theorem GhostE.fz {H : DHeap} {v : DVal} {r : Nat} {cs : List DVal} {e : TypeId} (hr : H r = some (.cells cs e)) : GhostE H v (upd H r none) (fz r cs v) := fun w hw =>
  ⟨hw.letGo r, fun b hb => by simp only [upd] at hb; split at hb <;> simp_all, fun x hx => fz_rel hw hr _ _ hx⟩
theorem GhostE.drop (H : DHeap) (v : DVal) (r : Nat) : GhostE H v (upd H r none) v := fun w hw =>
  ⟨hw.letGo r, fun b hb => by simp only [upd] at hb; split at hb <;> simp_all, fun x hx => Rel.lasts (lasts_letGo H r w) _ _ hx⟩

theorem DFin.ghost {R : DEnd → DHeap → Prop} {v v' : DVal} {H H' : DHeap} (g : GhostE H v H' v') (h : DFin R v' H') : DFin R v H := by
  obtain ⟨v2, H2, k, hR⟩ := h
  exact ⟨v2, H2, g.trans k, hR⟩
/-- Block r is seen as memory that lasts. -/
theorem DFin.fz {R : DEnd → DHeap → Prop} {v : DVal} {H : DHeap} (r : Nat) {cs : List DVal} {e : TypeId} (hr : H r = some (.cells cs e)) (h : DFin R (fz r cs v) (upd H r none)) : DFin R v H := .ghost (.fz hr) h
/-- Block r is let go. -/
theorem DFin.drop {R : DEnd → DHeap → Prop} {v : DVal} {H : DHeap} (r : Nat) (h : DFin R v (upd H r none)) : DFin R v H := .ghost (.drop H v r) h

theorem DCalls.ghost {f : FuncId} {args : List DVal} {H : DHeap} {R R' : DEnd → DHeap → Prop} (h : DCalls P G f args H R) (hr : ∀ e H', R e H' → ∃ v v' H'', e = .ret v ∧ GhostE H' v H'' v' ∧ R' (.ret v') H'') : DCalls P G f args H R' := by
  refine ⟨h.1, fun vs w hv hH hG => (h.2 vs w hv hH hG).mono fun e w' ⟨e', H', r, k1, k2, k3⟩ => ?_⟩
  obtain ⟨v, v', H'', rfl, g, r'⟩ := hr _ _ r
  obtain ⟨g1, g2, g3⟩ := g w' k2
  cases k1 with
  | ret d x hx => exact ⟨.ret v', H'', r', .ret _ _ (g3 x hx), g1, k3.os, k3.tape, k3.output, k3.size, k3.block, fun b hb => k3.own b (g2 b hb), k3.keep, k3.fz⟩

/-- The arguments are seen otherwise ahead of the call. -/
theorem DCalls.pre {f : FuncId} {args args' : List DVal} {H H' : DHeap} {R : DEnd → DHeap → Prop} (g : GhostE H (.tuple args) H' (.tuple args')) (h : DCalls P G f args' H' R) : DCalls P G f args H R := by
  refine ⟨h.1, fun vs w hv hH hG => ?_⟩
  obtain ⟨g1, g2, g3⟩ := g w hH
  have hl : Lasts H w H' w := ⟨fun b i x hb hc => ⟨by
    cases e : H' b with
    | none => rfl
    | some o => exact absurd hb (g2 b (by simp [e])), hc⟩, Nat.le_refl _, fun _ _ => rfl⟩
  have hv' : RelL w H' args' vs := by
    have := g3 (.tuple vs.toArray) (by simp only [Rel]; exact ⟨_, rfl, hv⟩)
    simp only [Rel] at this
    obtain ⟨xs, h1, h2⟩ := this
    cases h1; exact h2
  refine (h.2 vs w hv' g1 (hG.lasts hl)).mono fun e w' ⟨e', H'', r, k1, k2, k3⟩ => ⟨e', H'', r, k1, k2, k3.os, k3.tape, k3.output, k3.size, fun b hb hn => k3.block b hb (by
    cases e : H' b with
    | none => rfl
    | some o => exact absurd hn (g2 b (by simp [e]))), fun b hb => ?_, k3.keep, k3.fz⟩
  rcases k3.own b hb with k | k
  · exact .inl (g2 b k)
  · exact .inr k
theorem DCalls.fzArgs {f : FuncId} {args : List DVal} {H : DHeap} {R : DEnd → DHeap → Prop} (r : Nat) {cs : List DVal} {e : TypeId} (hr : H r = some (.cells cs e)) (h : DCalls P G f (fzs r cs args) (upd H r none) R) : DCalls P G f args H R :=
  .pre (by have := GhostE.fz (v := .tuple args) hr; simpa only [fz] using this) h

/-- A value that points to nothing. -/
def plain : DVal → Bool
  | .bool _ | .int _ _ | .str _ | .nilPtr | .nilSlice | .nilMap | .nilFunc | .nilIface => true
  | .tuple l => plains l
  | .agg l => plains l
  | _ => false
where plains : List DVal → Bool
  | [] => true
  | d :: ds => plain d && plains ds

mutual
theorem plain_rel {w : World} {H H' : DHeap} : ∀ (d : DVal) (v : Value), plain d = true → Rel w H d v → Rel w H' d v
  | .tuple l, v, hp, h => by
    simp only [plain] at hp
    simp only [Rel] at h ⊢
    obtain ⟨x, rfl, h1⟩ := h
    exact ⟨x, rfl, plains_rel _ _ hp h1⟩
  | .agg l, v, hp, h => by
    simp only [plain] at hp
    simp only [Rel] at h ⊢
    obtain ⟨x, rfl, h1⟩ := h
    exact ⟨x, rfl, plains_rel _ _ hp h1⟩
  | .bool x, v, hp, h => by simpa [Rel] using h
  | .int x y, v, hp, h => by simpa [Rel] using h
  | .str x, v, hp, h => by simpa [Rel] using h
  | .nilPtr, v, hp, h => by simpa [Rel] using h
  | .nilSlice, v, hp, h => by simpa [Rel] using h
  | .nilMap, v, hp, h => by simpa [Rel] using h
  | .nilFunc, v, hp, h => by simpa [Rel] using h
  | .nilIface, v, hp, h => by simpa [Rel] using h
  | .raw _, _, hp, _ => by cases hp
  | .vptr _ _, _, hp, _ => by cases hp
  | .optr _ _, _, hp, _ => by cases hp
  | .vslice _ _, _, hp, _ => by cases hp
  | .oslice _ _ _ _ _, _, hp, _ => by cases hp
  | .omap _, _, hp, _ => by cases hp
  | .func _ _ _, _, hp, _ => by cases hp
  | .iface _ _, _, hp, _ => by cases hp
theorem plains_rel {w : World} {H H' : DHeap} : ∀ (ds : List DVal) (vs : List Value), plain.plains ds = true → RelL w H ds vs → RelL w H' ds vs
  | [], _, _, h => by simpa [RelL] using h
  | d :: ds, vs, hp, h => by
    simp only [plain.plains, Bool.and_eq_true] at hp
    simp only [RelL] at h ⊢
    obtain ⟨y, ys, rfl, h1, h2⟩ := h
    exact ⟨y, ys, rfl, plain_rel d y hp.1 h1, plains_rel ds ys hp.2 h2⟩
end

/-- **A CALL THAT ONLY LOOKS**: it is handed own memory as memory that lasts; its result points to nothing; the caller's own blocks are as they were. -/
theorem DCalls.borrow {f : FuncId} {args args' : List DVal} {H : DHeap} {R : DEnd → DHeap → Prop} (h : DCalls P G f args' h0 R) (hb : ∀ w vs, SimHeap w H → RelL w H args vs → RelL w h0 args' vs) (hG : ∀ g, plain (G g) = true ∨ (∃ r o, G g = .optr r o) ∨ ∀ w, Rel w H (G g) (.pointer (some ⟨g, 0, none⟩)) → Rel w h0 (G g) (.pointer (some ⟨g, 0, none⟩)))
    (hR : ∀ e H2, R e H2 → ∃ v, e = .ret v ∧ plain v = true) : DCalls P G f args H (fun e H2 => (∃ H3, R e H3) ∧ H2 = H) := by
  refine ⟨h.1, fun vs w hv hH hg => ?_⟩
  have hg0 : GOk G w h0 := fun g => by
    rcases hG g with k | ⟨r, o, k⟩ | k
    · exact plain_rel _ _ k (hg g)
    · have := hg g
      rw [k] at this ⊢
      simpa [Rel] using this
    · exact k w (hg g)
  refine (h.2 vs w (hb w vs hH hv) (fun r o hr => by cases hr) hg0).mono fun e w' ⟨e', H', r, k1, k2, k3⟩ => ?_
  obtain ⟨v, rfl, hp⟩ := hR _ _ r
  have hE : Ext H w H w' := ⟨k3.os, k3.tape, k3.output, k3.size, fun b hb _ => k3.block b hb rfl, fun b hb => .inl hb, k3.keep, k3.fz⟩
  refine ⟨.ret v, H, ⟨⟨H', r⟩, rfl⟩, ?_, ?_, hE⟩
  · cases k1 with
    | ret d x hx => exact .ret _ _ (plain_rel _ _ hp hx)
  · intro r o ho
    rw [k3.block r (hH.lt (by simp [ho])) rfl]
    exact (hH r o ho).lasts hE.lasts

end
attribute [go_sem] fz.eq_1 fz.eq_2 fz.eq_3 fz.eq_4 fz.eq_5 fz.eq_6 fzs.eq_1 fzs.eq_2
theorem fz_bool (r : Nat) (cs : List DVal) (b : Bool) : fz r cs (.bool b) = .bool b := by simp [fz]
theorem fz_int (r : Nat) (cs : List DVal) (k : IntKind) (n : Int) : fz r cs (.int k n) = .int k n := by simp [fz]
theorem fz_str (r : Nat) (cs : List DVal) (b : List UInt8) : fz r cs (.str b) = .str b := by simp [fz]
theorem fz_nilSlice (r : Nat) (cs : List DVal) : fz r cs .nilSlice = .nilSlice := by simp [fz]
theorem fz_nilPtr (r : Nat) (cs : List DVal) : fz r cs .nilPtr = .nilPtr := by simp [fz]
theorem fz_nilMap (r : Nat) (cs : List DVal) : fz r cs .nilMap = .nilMap := by simp [fz]
theorem fz_nilFunc (r : Nat) (cs : List DVal) : fz r cs .nilFunc = .nilFunc := by simp [fz]
theorem fz_nilIface (r : Nat) (cs : List DVal) : fz r cs .nilIface = .nilIface := by simp [fz]
theorem fz_vslice (r : Nat) (cs : List DVal) (l : List DVal) (n : Nat) : fz r cs (.vslice l n) = .vslice (fzs r cs l) n := by simp [fz]
theorem fz_vptr (r : Nat) (cs : List DVal) (l : List DVal) (n : Nat) : fz r cs (.vptr l n) = .vptr (fzs r cs l) n := by simp [fz]
theorem fzs_map {α : Type} (r : Nat) (cs : List DVal) (f : α → DVal) (h : ∀ x, fz r cs (f x) = f x) (l : List α) : fzs r cs (l.map f) = l.map f := by
  induction l with
  | nil => simp [fzs]
  | cons x l ih => simp [fzs, h, ih]
theorem fzs_ints (r : Nat) (cs : List DVal) (l : List Int) : fzs r cs (l.map dI) = l.map dI := fzs_map r cs dI (fun _ => by simp [fz]) l
theorem fzs_intss (r : Nat) (cs : List DVal) (l : List (List Int)) : fzs r cs (l.map dIs) = l.map dIs := fzs_map r cs dIs (fun x => by simp [dIs, fz_vslice, fzs_ints]) l
attribute [go_sem] fzs_ints fzs_intss
theorem upd_undo {H : DHeap} {r : Nat} {o : DObj} (h : H r = none) : upd (upd H r (some o)) r none = H := upd_none_self h _
attribute [go_sem] fz_bool fz_int fz_str fz_nilSlice fz_nilPtr fz_nilMap fz_nilFunc fz_nilIface fz_vslice fz_vptr
end Go.Dl
