/- The data level and the contracts of the functions that are reached (part 4). -/
import Derived.Shelf.Lays
import Derived.Shelf.LaysC
import Derived.Shelf.LaysM
import Derived.Shelf.Small.Strs
import Derived.Shelf.Strconv.Itoa4
import Derived.Shelf.Strconv.ParseIntPublic10
import Derived.Shelf.Strings.Builder1
import Derived.Shelf.Strings.Count
import Derived.Shelf.Strings.Cut
import Derived.Shelf.Strings.Fields
import Derived.Shelf.Strings.Prefix
import Derived.Shelf.Strings.Split
import Derived.Test.YtbefgogblpebfaaDoorProg
import Derived.Test.YtbefgogblpebfaaDoorQc
set_option linter.unusedSimpArgs false
set_option linter.unusedVariables false
-- THE DATA LEVEL, PART 7: own memory seen as memory that lasts; calls that only look.
namespace Go.Dl
open Go Go.RowKit

mutual
/-- The value, with block r (its cells: cs) seen as memory that lasts. -/
def fz (r : Nat) (cs : List DVal) : DVal → DVal
  | .optr r' off => if r' = r then .vptr cs off else .optr r' off
  | .oslice sz r' off len lo => if r' = r then .vslice ((cs.drop off).take (len * sz)) len else .oslice sz r' off len lo
  | .func fn a c => .func fn (fzs r cs a) (fzs r cs c)
  | .iface t v => .iface t (fz r cs v)
  | .agg l => .agg (fzs r cs l)
  | .tuple l => .tuple (fzs r cs l)
  | .vptr l off => .vptr (fzs r cs l) off
  | .vslice l n => .vslice (fzs r cs l) n
  | d => d
def fzs (r : Nat) (cs : List DVal) : List DVal → List DVal
  | [] => []
  | d :: ds => fz r cs d :: fzs r cs ds
end

section
variable {P : Program} {G : Nat → DVal} {w : World} {H : DHeap}

theorem lasts_letGo (H : DHeap) (r : Nat) (w : World) : Lasts H w (upd H r none) w :=
  ⟨fun b i x hb hc => ⟨by simp only [upd]; split; rfl; exact hb, hc⟩, Nat.le_refl _, fun _ _ => rfl⟩

theorem own_cellsAt (hH : SimHeap w H) {r : Nat} {cs : List DVal} {e : TypeId} (hr : H r = some (.cells cs e)) : ∃ xs, RelL w (upd H r none) cs xs ∧ CellsAt w (upd H r none) r 0 xs := by
  obtain ⟨xs, hl, hh⟩ := hH.holds hr
  exact ⟨xs, hl.lasts (lasts_letGo H r w), .inr ⟨by simp [upd], fun i x hx => by simpa using hh i x hx⟩⟩

theorem CellsAt.part {b off : Nat} {xs : List Value} (h : CellsAt w H b off xs) (m n : Nat) : CellsAt w H b (off + m) ((xs.drop m).take n) := by
  rcases h with rfl | ⟨h1, h2⟩
  · exact .inl (by simp)
  · refine .inr ⟨h1, fun i x hx => ?_⟩
    have : xs[m + i]? = some x := by
      rw [List.getElem?_take] at hx
      split at hx
      · simpa using hx
      · cases hx
    have := h2 _ x this
    rwa [← Nat.add_assoc] at this

mutual
theorem fz_rel (hH : SimHeap w H) {r : Nat} {cs : List DVal} {e : TypeId} (hr : H r = some (.cells cs e)) : ∀ (d : DVal) (v : Value), Rel w H d v → Rel w (upd H r none) (fz r cs d) v
  | .optr r' off, v, h => by
    simp only [fz]
    split
    · rename_i e'; subst e'
      simp only [Rel] at h ⊢
      obtain ⟨xs, hl, hc⟩ := own_cellsAt hH hr
      exact ⟨r', 0, xs, by simpa using h, hc, hl⟩
    · simpa [Rel] using h
  | .oslice sz r' off len lo, v, h => by
    simp only [fz]
    split
    · rename_i e'; subst e'
      simp only [Rel] at h ⊢
      obtain ⟨o, cap, rfl, h1, h2, h3, h4⟩ := h
      obtain ⟨xs, hl, hc⟩ := own_cellsAt hH hr
      refine ⟨_, cap, rfl, h2, ?_⟩
      by_cases h0 : cap = 0
      · have : len = 0 := by omega
        subst this; left; simp
      · have ho : o = off := h3.resolve_left h0
        subst ho
        right
        refine ⟨r', o, (xs.drop o).take (len * sz), rfl, ?_, (hl.drop o).take _⟩
        have := hc.part o (len * sz)
        simpa using this
    · exact Rel.lasts (lasts_letGo H r w) _ _ h
  | .func fn a c, v, h => by
    simp only [Rel, fz] at h ⊢
    obtain ⟨xs, ys, rfl, h1, h2⟩ := h
    exact ⟨xs, ys, rfl, fzs_rel hH hr _ _ h1, fzs_rel hH hr _ _ h2⟩
  | .iface t d, v, h => by
    simp only [Rel, fz] at h ⊢
    obtain ⟨x, rfl, h1⟩ := h
    exact ⟨x, rfl, fz_rel hH hr _ _ h1⟩
  | .agg l, v, h => by
    simp only [Rel, fz] at h ⊢
    obtain ⟨x, rfl, h1⟩ := h
    exact ⟨x, rfl, fzs_rel hH hr _ _ h1⟩
  | .tuple l, v, h => by
    simp only [Rel, fz] at h ⊢
    obtain ⟨x, rfl, h1⟩ := h
    exact ⟨x, rfl, fzs_rel hH hr _ _ h1⟩
  | .raw x, v, h => by simp only [fz]; exact Rel.lasts (lasts_letGo H r w) _ _ h
  | .bool x, v, h => by simp only [fz]; exact Rel.lasts (lasts_letGo H r w) _ _ h
  | .int x y, v, h => by simp only [fz]; exact Rel.lasts (lasts_letGo H r w) _ _ h
  | .str x, v, h => by simp only [fz]; exact Rel.lasts (lasts_letGo H r w) _ _ h
  | .nilPtr, v, h => by simp only [fz]; exact Rel.lasts (lasts_letGo H r w) _ _ h
  | .vptr l off, v, h => by
    simp only [Rel, fz] at h ⊢
    obtain ⟨b, o, xs, rfl, h1, h2⟩ := h
    exact ⟨b, o, xs, rfl, h1.lasts (lasts_letGo H r w), fzs_rel hH hr _ _ h2⟩
  | .nilSlice, v, h => by simp only [fz]; exact Rel.lasts (lasts_letGo H r w) _ _ h
  | .vslice l n, v, h => by
    simp only [Rel, fz] at h ⊢
    obtain ⟨a, cap, rfl, hle, h1⟩ := h
    refine ⟨a, cap, rfl, hle, ?_⟩
    rcases h1 with h1 | ⟨b, o, xs, rfl, h1, h2⟩
    · subst h1; exact .inl rfl
    · exact .inr ⟨b, o, xs, rfl, h1.lasts (lasts_letGo H r w), fzs_rel hH hr _ _ h2⟩
  | .nilMap, v, h => by simp only [fz]; exact Rel.lasts (lasts_letGo H r w) _ _ h
  | .omap x, v, h => by simp only [fz]; exact Rel.lasts (lasts_letGo H r w) _ _ h
  | .nilFunc, v, h => by simp only [fz]; exact Rel.lasts (lasts_letGo H r w) _ _ h
  | .nilIface, v, h => by simp only [fz]; exact Rel.lasts (lasts_letGo H r w) _ _ h
theorem fzs_rel (hH : SimHeap w H) {r : Nat} {cs : List DVal} {e : TypeId} (hr : H r = some (.cells cs e)) : ∀ (ds : List DVal) (vs : List Value), RelL w H ds vs → RelL w (upd H r none) (fzs r cs ds) vs
  | [], vs, h => by simpa [fzs, RelL] using h
  | d :: ds, vs, h => by
    simp only [fzs, RelL] at h ⊢
    obtain ⟨y, ys, rfl, h1, h2⟩ := h
    exact ⟨y, ys, rfl, fz_rel hH hr _ _ h1, fzs_rel hH hr _ _ h2⟩
end

/-- A step of thought on a result. -/
def GhostE (H : DHeap) (v : DVal) (H' : DHeap) (v' : DVal) : Prop := ∀ w, SimHeap w H → SimHeap w H' ∧ (∀ b, H' b ≠ none → H b ≠ none) ∧ ∀ x, Rel w H v x → Rel w H' v' x

theorem GhostE.refl (H : DHeap) (v : DVal) : GhostE H v H v := fun _ h => ⟨h, fun _ h => h, fun _ h => h⟩
theorem GhostE.trans {H H' H'' : DHeap} {v v' v'' : DVal} (h : GhostE H v H' v') (k : GhostE H' v' H'' v'') : GhostE H v H'' v'' := fun w hw => by
  obtain ⟨h1, h2, h3⟩ := h w hw
  obtain ⟨k1, k2, k3⟩ := k w h1
  exact ⟨k1, fun b hb => h2 b (k2 b hb), fun x hx => k3 x (h3 x hx)⟩
theorem GhostE.fz {H : DHeap} {v : DVal} {r : Nat} {cs : List DVal} {e : TypeId} (hr : H r = some (.cells cs e)) : GhostE H v (upd H r none) (fz r cs v) := fun w hw =>
  ⟨hw.letGo r, fun b hb => by simp only [upd] at hb; split at hb <;> simp_all, fun x hx => fz_rel hw hr _ _ hx⟩
theorem GhostE.drop (H : DHeap) (v : DVal) (r : Nat) : GhostE H v (upd H r none) v := fun w hw =>
  ⟨hw.letGo r, fun b hb => by simp only [upd] at hb; split at hb <;> simp_all, fun x hx => Rel.lasts (lasts_letGo H r w) _ _ hx⟩

theorem DFin.ghost {R : DEnd → DHeap → Prop} {v v' : DVal} {H H' : DHeap} (g : GhostE H v H' v') (h : DFin R v' H') : DFin R v H := by
  obtain ⟨v2, H2, k, hR⟩ := h
  exact ⟨v2, H2, g.trans k, hR⟩
/-- Block r is seen as memory that lasts. -/
theorem DFin.fz {R : DEnd → DHeap → Prop} {v : DVal} {H : DHeap} (r : Nat) {cs : List DVal} {e : TypeId} (hr : H r = some (.cells cs e)) (h : DFin R (fz r cs v) (upd H r none)) : DFin R v H := .ghost (.fz hr) h
/-- Block r is let go. -/
theorem DFin.drop {R : DEnd → DHeap → Prop} {v : DVal} {H : DHeap} (r : Nat) (h : DFin R v (upd H r none)) : DFin R v H := .ghost (.drop H v r) h

theorem DCalls.ghost {f : FuncId} {args : List DVal} {H : DHeap} {R R' : DEnd → DHeap → Prop} (h : DCalls P G f args H R) (hr : ∀ e H', R e H' → ∃ v v' H'', e = .ret v ∧ GhostE H' v H'' v' ∧ R' (.ret v') H'') : DCalls P G f args H R' := by
  refine ⟨h.1, fun vs w hv hH hG => (h.2 vs w hv hH hG).mono fun e w' ⟨e', H', r, k1, k2, k3⟩ => ?_⟩
  obtain ⟨v, v', H'', rfl, g, r'⟩ := hr _ _ r
  obtain ⟨g1, g2, g3⟩ := g w' k2
  cases k1 with
  | ret d x hx => exact ⟨.ret v', H'', r', .ret _ _ (g3 x hx), g1, k3.os, k3.tape, k3.output, k3.size, k3.block, fun b hb => k3.own b (g2 b hb), k3.keep, k3.fz⟩

/-- The arguments are seen otherwise ahead of the call. -/
theorem DCalls.pre {f : FuncId} {args args' : List DVal} {H H' : DHeap} {R : DEnd → DHeap → Prop} (g : GhostE H (.tuple args) H' (.tuple args')) (h : DCalls P G f args' H' R) : DCalls P G f args H R := by
  refine ⟨h.1, fun vs w hv hH hG => ?_⟩
  obtain ⟨g1, g2, g3⟩ := g w hH
  have hl : Lasts H w H' w := ⟨fun b i x hb hc => ⟨by
    cases e : H' b with
    | none => rfl
    | some o => exact absurd hb (g2 b (by simp [e])), hc⟩, Nat.le_refl _, fun _ _ => rfl⟩
  have hv' : RelL w H' args' vs := by
    have := g3 (.tuple vs.toArray) (by simp only [Rel]; exact ⟨_, rfl, hv⟩)
    simp only [Rel] at this
    obtain ⟨xs, h1, h2⟩ := this
    cases h1; exact h2
  refine (h.2 vs w hv' g1 (hG.lasts hl)).mono fun e w' ⟨e', H'', r, k1, k2, k3⟩ => ⟨e', H'', r, k1, k2, k3.os, k3.tape, k3.output, k3.size, fun b hb hn => k3.block b hb (by
    cases e : H' b with
    | none => rfl
    | some o => exact absurd hn (g2 b (by simp [e]))), fun b hb => ?_, k3.keep, fun a ha hn => k3.fz a ha (by
    cases e : H' a.block with
    | none => rfl
    | some o => exact absurd hn (g2 a.block (by simp [e])))⟩
  rcases k3.own b hb with k | k
  · exact .inl (g2 b k)
  · exact .inr k
theorem DCalls.fzArgs {f : FuncId} {args : List DVal} {H : DHeap} {R : DEnd → DHeap → Prop} (r : Nat) {cs : List DVal} {e : TypeId} (hr : H r = some (.cells cs e)) (h : DCalls P G f (fzs r cs args) (upd H r none) R) : DCalls P G f args H R :=
  .pre (by have := GhostE.fz (v := .tuple args) hr; simpa only [fz] using this) h

/-- A value that points to nothing. -/
def plain : DVal → Bool
  | .bool _ | .int _ _ | .str _ | .nilPtr | .nilSlice | .nilMap | .nilFunc | .nilIface => true
  | .tuple l => plains l
  | .agg l => plains l
  | _ => false
where plains : List DVal → Bool
  | [] => true
  | d :: ds => plain d && plains ds

mutual
theorem plain_rel {w : World} {H H' : DHeap} : ∀ (d : DVal) (v : Value), plain d = true → Rel w H d v → Rel w H' d v
  | .tuple l, v, hp, h => by
    simp only [plain] at hp
    simp only [Rel] at h ⊢
    obtain ⟨x, rfl, h1⟩ := h
    exact ⟨x, rfl, plains_rel _ _ hp h1⟩
  | .agg l, v, hp, h => by
    simp only [plain] at hp
    simp only [Rel] at h ⊢
    obtain ⟨x, rfl, h1⟩ := h
    exact ⟨x, rfl, plains_rel _ _ hp h1⟩
  | .bool x, v, hp, h => by simpa [Rel] using h
  | .int x y, v, hp, h => by simpa [Rel] using h
  | .str x, v, hp, h => by simpa [Rel] using h
  | .nilPtr, v, hp, h => by simpa [Rel] using h
  | .nilSlice, v, hp, h => by simpa [Rel] using h
  | .nilMap, v, hp, h => by simpa [Rel] using h
  | .nilFunc, v, hp, h => by simpa [Rel] using h
  | .nilIface, v, hp, h => by simpa [Rel] using h
  | .raw _, _, hp, _ => by cases hp
  | .vptr _ _, _, hp, _ => by cases hp
  | .optr _ _, _, hp, _ => by cases hp
  | .vslice _ _, _, hp, _ => by cases hp
  | .oslice _ _ _ _ _, _, hp, _ => by cases hp
  | .omap _, _, hp, _ => by cases hp
  | .func _ _ _, _, hp, _ => by cases hp
  | .iface _ _, _, hp, _ => by cases hp
theorem plains_rel {w : World} {H H' : DHeap} : ∀ (ds : List DVal) (vs : List Value), plain.plains ds = true → RelL w H ds vs → RelL w H' ds vs
  | [], _, _, h => by simpa [RelL] using h
  | d :: ds, vs, hp, h => by
    simp only [plain.plains, Bool.and_eq_true] at hp
    simp only [RelL] at h ⊢
    obtain ⟨y, ys, rfl, h1, h2⟩ := h
    exact ⟨y, ys, rfl, plain_rel d y hp.1 h1, plains_rel ds ys hp.2 h2⟩
end

/-- **A CALL THAT ONLY LOOKS**: it is handed own memory as memory that lasts; its result points to nothing; the caller's own blocks are as they were. -/
theorem DCalls.borrow {f : FuncId} {args args' : List DVal} {H : DHeap} {R : DEnd → DHeap → Prop} (h : DCalls P G f args' h0 R) (hb : ∀ w vs, SimHeap w H → RelL w H args vs → RelL w h0 args' vs) (hG : ∀ g, plain (G g) = true ∨ (∃ r o, G g = .optr r o) ∨ ∀ w, Rel w H (G g) (.pointer (some ⟨g, 0, none⟩)) → Rel w h0 (G g) (.pointer (some ⟨g, 0, none⟩)))
    (hR : ∀ e H2, R e H2 → ∃ v, e = .ret v ∧ plain v = true) : DCalls P G f args H (fun e H2 => (∃ H3, R e H3) ∧ H2 = H) := by
  refine ⟨h.1, fun vs w hv hH hg => ?_⟩
  have hg0 : GOk G w h0 := ⟨fun g => by
    rcases hG g with k | ⟨r, o, k⟩ | k
    · exact plain_rel _ _ k (hg.rel g)
    · have := hg.rel g
      rw [k] at this ⊢
      simpa [Rel] using this
    · exact k w (hg.rel g), hg.exact⟩
  refine (h.2 vs w (hb w vs hH hv) (fun r o hr => by cases hr) hg0).mono fun e w' ⟨e', H', r, k1, k2, k3⟩ => ?_
  obtain ⟨v, rfl, hp⟩ := hR _ _ r
  have hE : Ext H w H w' := ⟨k3.os, k3.tape, k3.output, k3.size, fun b hb _ => k3.block b hb rfl, fun b hb => .inl hb, k3.keep, fun a ha _ => k3.fz a ha rfl⟩
  refine ⟨.ret v, H, ⟨⟨H', r⟩, rfl⟩, ?_, ?_, hE⟩
  · cases k1 with
    | ret d x hx => exact .ret _ _ (plain_rel _ _ hp hx)
  · intro r o ho
    rw [k3.block r (hH.lt (by simp [ho])) rfl]
    exact (hH r o ho).lasts hE.lasts

end
attribute [go_sem] fz.eq_1 fz.eq_2 fz.eq_3 fz.eq_4 fz.eq_5 fz.eq_6 fzs.eq_1 fzs.eq_2
theorem fz_bool (r : Nat) (cs : List DVal) (b : Bool) : fz r cs (.bool b) = .bool b := by simp [fz]
theorem fz_int (r : Nat) (cs : List DVal) (k : IntKind) (n : Int) : fz r cs (.int k n) = .int k n := by simp [fz]
theorem fz_str (r : Nat) (cs : List DVal) (b : List UInt8) : fz r cs (.str b) = .str b := by simp [fz]
theorem fz_nilSlice (r : Nat) (cs : List DVal) : fz r cs .nilSlice = .nilSlice := by simp [fz]
theorem fz_nilPtr (r : Nat) (cs : List DVal) : fz r cs .nilPtr = .nilPtr := by simp [fz]
theorem fz_nilMap (r : Nat) (cs : List DVal) : fz r cs .nilMap = .nilMap := by simp [fz]
theorem fz_nilFunc (r : Nat) (cs : List DVal) : fz r cs .nilFunc = .nilFunc := by simp [fz]
theorem fz_nilIface (r : Nat) (cs : List DVal) : fz r cs .nilIface = .nilIface := by simp [fz]
theorem fz_vslice (r : Nat) (cs : List DVal) (l : List DVal) (n : Nat) : fz r cs (.vslice l n) = .vslice (fzs r cs l) n := by simp [fz]
theorem fz_vptr (r : Nat) (cs : List DVal) (l : List DVal) (n : Nat) : fz r cs (.vptr l n) = .vptr (fzs r cs l) n := by simp [fz]
theorem fzs_map {α : Type} (r : Nat) (cs : List DVal) (f : α → DVal) (h : ∀ x, fz r cs (f x) = f x) (l : List α) : fzs r cs (l.map f) = l.map f := by
  induction l with
  | nil => simp [fzs]
  | cons x l ih => simp [fzs, h, ih]
theorem fzs_ints (r : Nat) (cs : List DVal) (l : List Int) : fzs r cs (l.map dI) = l.map dI := fzs_map r cs dI (fun _ => by simp [fz]) l
theorem fzs_intss (r : Nat) (cs : List DVal) (l : List (List Int)) : fzs r cs (l.map dIs) = l.map dIs := fzs_map r cs dIs (fun x => by simp [dIs, fz_vslice, fzs_ints]) l
attribute [go_sem] fzs_ints fzs_intss
theorem upd_undo {H : DHeap} {r : Nat} {o : DObj} (h : H r = none) : upd (upd H r (some o)) r none = H := upd_none_self h _
attribute [go_sem] fz_bool fz_int fz_str fz_nilSlice fz_nilPtr fz_nilMap fz_nilFunc fz_nilIface fz_vslice fz_vptr
end Go.Dl

-- THE DATA LEVEL, PART 8: loops over iterators, ready for use.
namespace Go.Dl
open Go Go.RowKit

theorem over_upd (Hi X : DHeap) (r r' : Nat) (o : DObj) : over Hi (upd X r (some o)) r' = if r' = r then some o else over Hi X r' := by
  by_cases e : r' = r <;> simp [over, upd, e]
theorem dbind_nil (env : Nat → DVal) (ds : List DVal) : dbind env [] ds = env := by cases ds <;> rfl
attribute [go_sem] over_upd upd_over over_h0 DThen.eq_1 DBodyQ.eq_1 DBodyQ.eq_2 DBodyQ.eq_3 DBodyQ.eq_4 dbind.eq_1 dbind_nil

theorem upd_upd {α : Type} (f : Nat → α) (r : Nat) (a b : α) : upd (upd f r a) r b = upd f r b := by
  funext i; simp only [upd]; split <;> rfl
/-- The store into block r1, told first. -/
theorem upd_swap {α : Type} {r1 r2 : Nat} (h : r1 ≠ r2) (f : Nat → α) (a b : α) : upd (upd f r2 b) r1 a = upd (upd f r1 a) r2 b := by
  funext i; simp only [upd]; by_cases e1 : i = r1 <;> by_cases e2 : i = r2 <;> simp_all
theorem splice_zero (xs ys : List DVal) : splice xs 0 ys = ys ++ xs.drop ys.length := by simp [splice]
theorem splice_succ (x : DVal) (xs ys : List DVal) (n : Nat) : splice (x :: xs) (n + 1) ys = x :: splice xs n ys := by
  simp [splice, Nat.add_right_comm]
attribute [go_sem] upd_upd splice_zero splice_succ

theorem Disj.st {Hi X : DHeap} (h : Disj Hi X) {r : Nat} {ob : DObj} (hr : X r = some ob) (o : Option DObj) : Disj Hi (upd X r o) := h.hi (h r (by simp [hr])) o

theorem DCalls.fzA {P : Program} {G : Nat → DVal} {f : FuncId} {args : List DVal} {H : DHeap} {R : DEnd → DHeap → Prop} (r : Nat) {cs : List DVal} {e : TypeId} (hr : H r = none) (h : DCalls P G f (fzs r cs args) H R) : DCalls P G f args (upd H r (some (.cells cs e))) R :=
  DCalls.fzArgs r (upd_same _ _ _) (by rw [upd_none_self hr]; exact h)
theorem DFin.fzA {R : DEnd → DHeap → Prop} {v : DVal} {H : DHeap} (r : Nat) {cs : List DVal} {e : TypeId} (hr : H r = none) (h : DFin R (Dl.fz r cs v) H) : DFin R v (upd H r (some (.cells cs e))) :=
  DFin.fz r (upd_same _ _ _) (by rw [upd_none_self hr]; exact h)
theorem DFin.dropA {R : DEnd → DHeap → Prop} {v : DVal} {H : DHeap} (r : Nat) {o : Option DObj} (hr : H r = none) (h : DFin R v H) : DFin R v (upd H r o) :=
  DFin.drop r (by rw [upd_none_self hr]; exact h)

theorem lasts_over (H X : DHeap) (w : World) : Lasts (over H X) w H w :=
  ⟨fun b i x hb hc => ⟨(over_eq_none.1 hb).1, hc⟩, Nat.le_refl _, fun _ _ => rfl⟩
theorem GhostE.over {H X : DHeap} (d : Disj H X) (v : DVal) : GhostE (over H X) v H v := fun w hw =>
  ⟨fun r o ho => by
    have hx : X r = none := d.x (by simp [ho])
    exact (hw r o (by rw [over_hi hx]; exact ho)).lasts (lasts_over H X w), fun b hb e => hb (over_eq_none.1 e).1, fun x hx => Rel.lasts (lasts_over H X w) _ _ hx⟩
/-- The part X is let go. -/
theorem DFin.over {R : DEnd → DHeap → Prop} {v : DVal} {H X : DHeap} (d : Disj H X) (h : R (.ret v) H) : DFin R v (over H X) := .ghost (.over d v) (.refl h)

section
variable {P : Program} {G : Nat → DVal} {N : Nat} {Q : DExit → DS → Prop}

/-- A region whose order is drawn, by a plan. -/
theorem dwp_draws {id : Nat} {ops : List Oper} {s : DS} (hm : P.follows .mixedOrders = true) (p : Plan) (hp : (ops.all (operOk N) && cover ops [] p && planOk ops p []) = true) (h : dplan P G ops (QP Q) p s) : dwp P G N (.region id ops.toArray true) Q s :=
  dwp_any (N := ⟨N, 0⟩) hm p (by simpa using hp) (by simpa using h)

/-- A loop over an iterator that has no memory of its own. -/
theorem dwp_range {g : Operand} {ps : List Tmp} {asg body : Code} {s : DS} (gf : FuncId) (captured : List DVal) (L : List (List DVal))
    (hit : DIter P G gf captured h0 L) (hg : dev G s.env g = .func (.func gf) [] captured)
    (hok : (opdOk N g && codeOk N asg && codeOk N body && flat asg && flat body) = true) (hL : ∀ x ∈ L, x.length = ps.length)
    (Hi X : DHeap) (hs : s.heap = over Hi X) (d1 : Disj Hi X)
    (I : Nat → DHeap → Prop) (Ix : Code → DHeap → Prop) (i0 : I 0 X)
    (hbody : ∀ k x Hi X, Disj Hi X → L[k]? = some x → I k X → dwp P G N asg (DThen (dwp P G N body (DBodyQ Hi (I (k + 1)) Ix))) ⟨dbind s.env ps x, over Hi X⟩)
    (hdone : ∀ X, Disj Hi X → I L.length X → Q .normal ⟨s.env, over Hi X⟩)
    (hexit : ∀ c X, Disj Hi X → Ix c X → DJump Q c ⟨s.env, over Hi X⟩) : dwp P G N (.rangeFunc g ps.toArray asg body) Q s := by
  simp only [dwp]
  exact dwp0_range hg hok hit (by simpa using hL) Hi X (by rw [hs, over_h0]) d1 (Disj.h0 _) (fun r hr => rfl) I Ix i0 (fun k x Hi X a b c => by simpa using hbody k x Hi X a b c) hdone hexit

end
end Go.Dl

-- Loops over an iterator that reads the loop's own memory at its start.
namespace Go.Dl
open Go Go.RowKit
def DIterX (P : Program) (G : Nat → DVal) (gf : FuncId) (captured : List DVal) (Y : DHeap) (L : List (List DVal)) (X : DHeap) : Prop :=
  ∀ (l : Nat) (I : Nat → DHeap → Prop) (Ix : Option DObj → DHeap → Prop) (Hi : DHeap), Disj Hi X → Disj Hi Y → Disj Y X → Y l = none → Hi l ≠ none → I 0 X →
    (∀ k x Hi' X, Disj Hi' X → Hi' l = Hi l → L[k]? = some x → I k X → DYields P G l x (over Hi' X) fun e H' => ∃ X',
      (e = .ret (.bool true) ∧ H' = over Hi' X' ∧ Disj Hi' X' ∧ I (k + 1) X') ∨ (e = .ret (.bool false) ∧ ∃ o, o ≠ none ∧ H' = over (upd Hi' l o) X' ∧ Disj (upd Hi' l o) X' ∧ Ix o X')) →
    DCalls P G gf (.func (.yield l) [] [] :: captured) (over (over Hi Y) X) fun e H' => (∃ v, e = .ret v) ∧ ∃ X',
      (H' = over Hi X' ∧ Disj Hi X' ∧ I L.length X') ∨ (∃ o, o ≠ none ∧ H' = over (upd Hi l o) X' ∧ Disj (upd Hi l o) X' ∧ Ix o X')

section
variable {P : Program} {G : Nat → DVal} {N : Nat} {Q : DExit → DS → Prop}
/-- **A LOOP OVER AN ITERATOR.** 'I k X': what the loop's own part of the heap is when k rounds are over; 'Ix c X': a round has left by the jump c. -/
theorem dwp0_rangeX {g : Operand} {ps : Array Tmp} {asg body : Code} {s : DS} {gf : FuncId} {captured : List DVal} {Y : DHeap} {L : List (List DVal)} (hg : dev G s.env g = .func (.func gf) [] captured)
    (hok : (opdOk N g && codeOk N asg && codeOk N body && flat asg && flat body) = true)
    (hL : ∀ x ∈ L, x.length = ps.size)
    (Hi X : DHeap) (hit : DIterX P G gf captured Y L X) (hs : s.heap = over (over Hi Y) X) (d1 : Disj Hi X) (d2 : Disj Hi Y) (d3 : Disj Y X)
    (I : Nat → DHeap → Prop) (Ix : Code → DHeap → Prop) (h0 : I 0 X)
    (hbody : ∀ k x Hi X, Disj Hi X → L[k]? = some x → I k X → dwp P G N asg (DThen (dwp P G N body (DBodyQ Hi (I (k + 1)) Ix))) ⟨dbind s.env ps.toList x, over Hi X⟩)
    (hdone : ∀ X, Disj Hi X → I L.length X → Q .normal ⟨s.env, over Hi X⟩)
    (hexit : ∀ c X, Disj Hi X → Ix c X → DJump Q c ⟨s.env, over Hi X⟩) : DWp0 P G N (.rangeFunc g ps asg body) Q s := by
  simp only [Bool.and_eq_true] at hok
  obtain ⟨⟨⟨⟨k1, k2⟩, k3⟩, k4⟩, k5⟩ := hok
  refine dwp0_rangeFunc k1 hg fun l D fn hl => ?_
  rw [hs, over_eq_none, over_eq_none] at hl
  obtain ⟨⟨hlH, hlY⟩, hlX⟩ := hl
  have hH : upd s.heap l (some (.loop s.env N (rec0 fn ps asg body D))) = over (over (upd Hi l (some (.loop s.env N (rec0 fn ps asg body D)))) Y) X := by
    rw [hs, upd_over_lo hlX, upd_over_lo hlY]
  rw [hH]
  refine (hit l I (fun o X => ∃ c, o = some (.loop s.env N { rec0 fn ps asg body D with state := .done, pending := some c }) ∧ Ix c X) (upd Hi l (some (.loop s.env N (rec0 fn ps asg body D)))) (d1.lo hlX _) (d2.lo hlY _) d3 hlY (by simp [upd]) h0 ?_).mono ?_
  · intro k x Hi' X hd hl' hx hI
    have hX : X l = none := hd.x (by rw [hl']; simp [upd])
    have hHl : over Hi' X l = some (.loop s.env N (rec0 fn ps asg body D)) := by rw [over_hi hX, hl']; simp [upd]
    refine dyields_intro hHl rfl rfl (hL x (List.mem_of_getElem? hx)) (by simp only [rec0, Bool.and_eq_true]; exact ⟨⟨⟨k2, k3⟩, k4⟩, k5⟩) _ (by rw [upd_over_lo hX]; exact hbody k x (upd Hi' l none) X (hd.lo hX _) hx hI) ?_
    rintro e ⟨env', heap'⟩ hq hn
    have back : ∀ (X' : DHeap) (o : Option DObj), Disj (upd Hi' l none) X' → X' l = none → Disj (upd Hi' l o) X' := fun X' o h h2 => by
      have := h.lo h2 o; rwa [upd_idem] at this
    have hup : ∀ X', X' l = none → ∀ o, upd (over (upd Hi' l none) X') l o = over (upd Hi' l o) X' := fun X' h o => by
      rw [upd_over_lo h, upd_idem]
    have hid : upd Hi' l (some (.loop s.env N (rec0 fn ps asg body D))) = Hi' := by
      funext b; simp only [upd]; split
      · rename_i e; subst e; rw [hl']; simp [upd]
      · rfl
    cases e with
    | normal =>
      obtain ⟨X', h1, h2, h3⟩ := hq
      simp only at h1 hn; subst h1
      have hx' := (over_eq_none.1 hn).2
      refine ⟨X', .inl ⟨rfl, ?_, ?_, h3⟩⟩
      · rw [hup X' hx', hid]
      · have := back X' (some (.loop s.env N (rec0 fn ps asg body D))) h2 hx'; rw [hid] at this; exact this
    | ret =>
      obtain ⟨X', h1, h2, h3⟩ := hq
      simp only at h1 hn; subst h1
      have hx' := (over_eq_none.1 hn).2
      exact ⟨X', .inr ⟨rfl, some (.loop s.env N { rec0 fn ps asg body D with state := .done, pending := some .ret }), Option.some_ne_none _, hup X' hx' _, back X' _ h2 hx', _, rfl, h3⟩⟩
    | exit id =>
      obtain ⟨X', h1, h2, h3⟩ := hq
      simp only at h1 hn; subst h1
      have hx' := (over_eq_none.1 hn).2
      exact ⟨X', .inr ⟨rfl, some (.loop s.env N { rec0 fn ps asg body D with state := .done, pending := some (.exit id) }), Option.some_ne_none _, hup X' hx' _, back X' _ h2 hx', _, rfl, h3⟩⟩
    | goto t =>
      obtain ⟨X', h1, h2, h3⟩ := hq
      simp only at h1 hn; subst h1
      have hx' := (over_eq_none.1 hn).2
      exact ⟨X', .inr ⟨rfl, some (.loop s.env N { rec0 fn ps asg body D with state := .done, pending := some (.goto t) }), Option.some_ne_none _, hup X' hx' _, back X' _ h2 hx', _, rfl, h3⟩⟩
    | panic v => exact hq.elim
  · rintro e H' ⟨⟨v, rfl⟩, X', (⟨rfl, hd, hi⟩ | ⟨o, ho, rfl, hd, c, rfl, hx⟩)⟩
    · have hX : X' l = none := hd.x (by simp [upd])
      refine ⟨v, rfl, .ready, none, by simp, ?_, ?_⟩
      · rw [over_hi hX]; simp [upd, rec0]
      · simp only [DJumpO]
        rw [upd_over_lo hX, upd_none_self hlH]
        refine hdone X' ?_ hi
        have := hd.lo hX none
        rwa [upd_none_self hlH] at this
    · have hX : X' l = none := hd.x (by simp [upd])
      refine ⟨v, rfl, .done, some c, by simp, ?_, ?_⟩
      · rw [over_hi hX]; simp [upd]
      · simp only [DJumpO]
        rw [upd_over_lo hX, upd_idem, upd_none_self hlH]
        refine hexit c X' ?_ hx
        have := hd.lo hX none
        rwa [upd_idem, upd_none_self hlH] at this
end
theorem dwp_rangeX {P : Program} {G : Nat → DVal} {N : Nat} {Q : DExit → DS → Prop} {g : Operand} {ps : List Tmp} {asg body : Code} {s : DS} (gf : FuncId) (captured : List DVal) (L : List (List DVal)) (Hi X : DHeap)
    (hit : DIterX P G gf captured h0 L X) (hg : dev G s.env g = .func (.func gf) [] captured)
    (hok : (opdOk N g && codeOk N asg && codeOk N body && flat asg && flat body) = true) (hL : ∀ x ∈ L, x.length = ps.length)
    (hs : s.heap = over Hi X) (d1 : Disj Hi X)
    (I : Nat → DHeap → Prop) (Ix : Code → DHeap → Prop) (i0 : I 0 X)
    (hbody : ∀ k x Hi X, Disj Hi X → L[k]? = some x → I k X → dwp P G N asg (DThen (dwp P G N body (DBodyQ Hi (I (k + 1)) Ix))) ⟨dbind s.env ps x, over Hi X⟩)
    (hdone : ∀ X, Disj Hi X → I L.length X → Q .normal ⟨s.env, over Hi X⟩)
    (hexit : ∀ c X, Disj Hi X → Ix c X → DJump Q c ⟨s.env, over Hi X⟩) : dwp P G N (.rangeFunc g ps.toArray asg body) Q s := by
  simp only [dwp]
  exact dwp0_rangeX hg hok (by simpa using hL) Hi X hit (by rw [hs, over_h0]) d1 (Disj.h0 _) (fun r hr => rfl) I Ix i0 (fun k x Hi X a b c => by simpa using hbody k x Hi X a b c) hdone hexit
end Go.Dl

-- The library functions of this seat, by the shelf (printed by shelfpick.py out of what the shelf's tools wrote at the seat).
namespace Go.Proofs
open Go.Shelf
def Tryd.lays169_ren : Go.Shelf.Ren := ⟨fun | 169 => 54 | n => n, fun | 70 => 88 | 9 => 9 | 0 => 0 | 72 => 90 | 37 => 36 | 127 => 142 | 3 => 3 | 5 => 5 | n => n, fun | n => n⟩
theorem Tryd.lays169 : Go.Proofs.Lays.n169 Tryd.prog Tryd.lays169_ren := {
  mixed := by kernel_rfl
  f169 := Tryd.func54.trans (congrArg some (by kernel_rfl))
  t0 := Tryd.underlying0
  a0 := Tryd.isAgg0
  z0 := Tryd.sizeOf0
  v0 := Tryd.zeroValue0
  t3 := Tryd.underlying3
  a3 := Tryd.isAgg3
  z3 := Tryd.sizeOf3
  v3 := Tryd.zeroValue3
  t9 := Tryd.underlying9
  a9 := Tryd.isAgg9
  z9 := Tryd.sizeOf9
  v9 := Tryd.zeroValue9
  t37 := Tryd.underlying36
  a37 := Tryd.isAgg36
  z37 := Tryd.sizeOf36
  v37 := Tryd.zeroValue36
  t70 := Tryd.underlying88
  a70 := Tryd.isAgg88
  z70 := Tryd.sizeOf88
  v70 := Tryd.zeroValue88
  t72 := Tryd.underlying90
  a72 := Tryd.isAgg90
  z72 := Tryd.sizeOf90
  v72 := Tryd.zeroValue90
  t127 := Tryd.underlying142
  a127 := Tryd.isAgg142
  z127 := Tryd.sizeOf142
  v127 := Tryd.zeroValue142 }
theorem Tryd.Builder_Extra_169 : Builder.Extra Tryd.prog Tryd.lays169_ren := {
  sizeBuilder := by kernel_rfl
  liesBuilder := by kernel_rfl
  t5 := Tryd.underlying5
  a5 := Tryd.isAgg5
  z5 := Tryd.sizeOf5
  v5 := Tryd.zeroValue5
  infoByte := by kernel_rfl
  cellsByte := by kernel_rfl
  sizeByte := by kernel_rfl
  neB5 := by decide }
open Go.RowKit in
theorem Tryd.Builder_String (B b : Nat) (l : List UInt8) (w : World) (h : Lib.IsBuilder 90 5 B b (Lib.byteCells l) w) (h0 : l ≠ []) :
    Calls Tryd.prog 54 #[.pointer (some ⟨b, 0, none⟩)] w fun e w' => e = .returned (.string ⟨l.toArray⟩) ∧ Below B w w' := Any.Builder_String Tryd.lays169 Tryd.Builder_Extra_169 B b l w h h0
def Tryd.lays137_ren : Go.Shelf.Ren := ⟨fun | 137 => 82 | 217 => 98 | 266 => 119 | n => n, fun | 9 => 9 | 5 => 5 | 3 => 3 | n => n, fun | n => n⟩
theorem Tryd.lays137 : Go.Proofs.Lays.n137 Tryd.prog Tryd.lays137_ren := {
  mixed := by kernel_rfl
  f137 := Tryd.func82.trans (congrArg some (by kernel_rfl))
  f217 := Tryd.func98.trans (congrArg some (by kernel_rfl))
  f266 := Tryd.func119.trans (congrArg some (by kernel_rfl))
  t3 := Tryd.underlying3
  a3 := Tryd.isAgg3
  z3 := Tryd.sizeOf3
  v3 := Tryd.zeroValue3
  t5 := Tryd.underlying5
  a5 := Tryd.isAgg5
  z5 := Tryd.sizeOf5
  v5 := Tryd.zeroValue5
  t9 := Tryd.underlying9
  a9 := Tryd.isAgg9
  z9 := Tryd.sizeOf9
  v9 := Tryd.zeroValue9 }
open Go.RowKit in
theorem Tryd.strings_IndexByte (s : ByteArray) (c : Int) (w : World) :
    Calls Tryd.prog 82 #[.string s, .int .u8 c] w fun e w' => e = .returned (.int .i64 (Lib.indexByte s.data.toList c.toNat.toUInt8)) ∧ w' = w := Any.strings_IndexByte Tryd.lays137 s c w
def Tryd.laysM173_ren : Go.Shelf.Ren := ⟨fun | 173 => 53 | 246 => 79 | 283 => 94 | 284 => 95 | 285 => 96 | 286 => 97 | 129 => 115 | 317 => 114 | 318 => 116 | 319 => 117 | 320 => 118 | 337 => 132 | 338 => 133 | n => n, fun | 2 => 2 | 3 => 3 | 9 => 9 | 4 => 4 | 171 => 156 | 0 => 0 | 53 => 49 | 37 => 36 | 5 => 5 | 173 => 159 | 212 => 174 | 51 => 175 | 20 => 20 | 213 => 176 | 46 => 50 | 232 => 209 | 233 => 210 | n => n, fun | 17 => 3 | 18 => 8 | 19 => 9 | n => n⟩
theorem Tryd.laysM173 : Go.Proofs.LaysM.n173 Tryd.prog Tryd.laysM173_ren := {
  mixed := by kernel_rfl
  f129 := Tryd.func115.trans (congrArg some (by kernel_rfl))
  f173 := Tryd.func53.trans (congrArg some (by kernel_rfl))
  f246 := Tryd.func79.trans (congrArg some (by kernel_rfl))
  f283 := Tryd.func94.trans (congrArg some (by kernel_rfl))
  f284 := Tryd.func95.trans (congrArg some (by kernel_rfl))
  f285 := Tryd.func96.trans (congrArg some (by kernel_rfl))
  f286 := Tryd.func97.trans (congrArg some (by kernel_rfl))
  f317 := Tryd.func114.trans (congrArg some (by kernel_rfl))
  f318 := Tryd.func116.trans (congrArg some (by kernel_rfl))
  f319 := Tryd.func117.trans (congrArg some (by kernel_rfl))
  f320 := Tryd.func118.trans (congrArg some (by kernel_rfl))
  f337 := Tryd.func132.trans (congrArg some (by kernel_rfl))
  f338 := Tryd.func133.trans (congrArg some (by kernel_rfl))
  t0 := Tryd.underlying0
  a0 := Tryd.isAgg0
  z0 := Tryd.sizeOf0
  v0 := Tryd.zeroValue0
  t2 := Tryd.underlying2
  a2 := Tryd.isAgg2
  z2 := Tryd.sizeOf2
  v2 := Tryd.zeroValue2
  t3 := Tryd.underlying3
  a3 := Tryd.isAgg3
  z3 := Tryd.sizeOf3
  v3 := Tryd.zeroValue3
  t4 := Tryd.underlying4
  a4 := Tryd.isAgg4
  z4 := Tryd.sizeOf4
  v4 := Tryd.zeroValue4
  t5 := Tryd.underlying5
  a5 := Tryd.isAgg5
  z5 := Tryd.sizeOf5
  v5 := Tryd.zeroValue5
  t9 := Tryd.underlying9
  a9 := Tryd.isAgg9
  z9 := Tryd.sizeOf9
  v9 := Tryd.zeroValue9
  t20 := Tryd.underlying20
  a20 := Tryd.isAgg20
  z20 := Tryd.sizeOf20
  v20 := Tryd.zeroValue20
  t37 := Tryd.underlying36
  a37 := Tryd.isAgg36
  z37 := Tryd.sizeOf36
  v37 := Tryd.zeroValue36
  t46 := Tryd.underlying50
  a46 := Tryd.isAgg50
  z46 := Tryd.sizeOf50
  v46 := Tryd.zeroValue50
  t51 := Tryd.underlying175
  a51 := Tryd.isAgg175
  z51 := Tryd.sizeOf175
  v51 := Tryd.zeroValue175
  t53 := Tryd.underlying49
  a53 := Tryd.isAgg49
  z53 := Tryd.sizeOf49
  v53 := Tryd.zeroValue49
  t171 := Tryd.underlying156
  a171 := Tryd.isAgg156
  z171 := Tryd.sizeOf156
  v171 := Tryd.zeroValue156
  t173 := Tryd.underlying159
  a173 := Tryd.isAgg159
  z173 := Tryd.sizeOf159
  v173 := Tryd.zeroValue159
  t212 := Tryd.underlying174
  a212 := Tryd.isAgg174
  z212 := Tryd.sizeOf174
  v212 := Tryd.zeroValue174
  t213 := Tryd.underlying176
  a213 := Tryd.isAgg176
  z213 := Tryd.sizeOf176
  t232 := Tryd.underlying209
  a232 := Tryd.isAgg209
  z232 := Tryd.sizeOf209
  v232 := Tryd.zeroValue209
  t233 := Tryd.underlying210
  a233 := Tryd.isAgg210
  z233 := Tryd.sizeOf210
  v233 := Tryd.zeroValue210
  g17 := by kernel_rfl
  g18 := by kernel_rfl
  g19 := by kernel_rfl
  i0 := by kernel_rfl
  i2 := by kernel_rfl
  i3 := by kernel_rfl
  i4 := by kernel_rfl
  i5 := by kernel_rfl
  i9 := by kernel_rfl
  i20 := by kernel_rfl
  i37 := by kernel_rfl
  i46 := by kernel_rfl
  i51 := by kernel_rfl
  i53 := by kernel_rfl
  i171 := by kernel_rfl
  i173 := by kernel_rfl
  i212 := by kernel_rfl
  i232 := by kernel_rfl
  i233 := by kernel_rfl
  m17 := by kernel_rfl
  m18 := by kernel_rfl
  m19 := by kernel_rfl }
open Go.RowKit Go.Sort Go.Lib in
theorem Tryd.strconv_FormatInt_10 (n : Int) (h0 : -9223372036854775808 ≤ n) (h1 : n ≤ 9223372036854775807) (w : World) (htab : Lib.TabIs Tryd.prog w "internal/strconv.uint64pow10" .u64 Lib.pow10Tab) :
    Calls Tryd.prog 53 #[.int .i64 n, .int .i64 10] w fun e w' => e = .returned (.string ⟨(Lib.itoa n).toArray⟩) ∧ ∃ k os, w' = grow (w.drewN k) os := Any.strconv_FormatInt_10 Tryd.laysM173 n h0 h1 w htab
def Tryd.laysC174_ren : Go.Shelf.Ren := ⟨fun | 174 => 60 | 247 => 85 | 245 => 86 | 287 => 100 | 279 => 101 | 280 => 102 | 281 => 103 | 282 => 104 | 321 => 123 | 322 => 124 | 316 => 125 | 171 => 127 | 205 => 126 | 243 => 135 | 246 => 79 | 283 => 94 | 284 => 95 | 285 => 96 | 286 => 97 | 129 => 115 | 317 => 114 | 318 => 116 | 319 => 117 | 320 => 118 | 337 => 132 | 338 => 133 | n => n, fun | 9 => 9 | 3 => 3 | 2 => 2 | 75 => 92 | 85 => 106 | 4 => 4 | 167 => 162 | 5 => 5 | 53 => 49 | 175 => 163 | 46 => 50 | 168 => 165 | 37 => 36 | 0 => 0 | 210 => 182 | 21 => 21 | 127 => 142 | 145 => 197 | 143 => 195 | 171 => 156 | 173 => 159 | 212 => 174 | 51 => 175 | 20 => 20 | 213 => 176 | 232 => 209 | 233 => 210 | 80 => 96 | n => n, fun | 15 => 5 | 16 => 6 | 17 => 3 | 18 => 8 | 19 => 9 | n => n⟩
theorem Tryd.laysC174 : Go.Proofs.LaysC.n174 Tryd.prog Tryd.laysC174_ren := {
  mixed := by kernel_rfl
  f129 := Tryd.func115.trans (congrArg some (by kernel_rfl))
  f171 := Tryd.func127.trans (congrArg some (by kernel_rfl))
  f174 := Tryd.func60.trans (congrArg some (by kernel_rfl))
  f205 := Tryd.func126.trans (congrArg some (by kernel_rfl))
  f243 := Tryd.func135.trans (congrArg some (by kernel_rfl))
  f245 := Tryd.func86.trans (congrArg some (by kernel_rfl))
  f246 := Tryd.func79.trans (congrArg some (by kernel_rfl))
  f247 := Tryd.func85.trans (congrArg some (by kernel_rfl))
  f279 := Tryd.func101.trans (congrArg some (by kernel_rfl))
  f280 := Tryd.func102.trans (congrArg some (by kernel_rfl))
  f281 := Tryd.func103.trans (congrArg some (by kernel_rfl))
  f282 := Tryd.func104.trans (congrArg some (by kernel_rfl))
  f283 := Tryd.func94.trans (congrArg some (by kernel_rfl))
  f284 := Tryd.func95.trans (congrArg some (by kernel_rfl))
  f285 := Tryd.func96.trans (congrArg some (by kernel_rfl))
  f286 := Tryd.func97.trans (congrArg some (by kernel_rfl))
  f287 := Tryd.func100.trans (congrArg some (by kernel_rfl))
  f316 := Tryd.func125.trans (congrArg some (by kernel_rfl))
  f317 := Tryd.func114.trans (congrArg some (by kernel_rfl))
  f318 := Tryd.func116.trans (congrArg some (by kernel_rfl))
  f319 := Tryd.func117.trans (congrArg some (by kernel_rfl))
  f320 := Tryd.func118.trans (congrArg some (by kernel_rfl))
  f321 := Tryd.func123.trans (congrArg some (by kernel_rfl))
  f322 := Tryd.func124.trans (congrArg some (by kernel_rfl))
  f337 := Tryd.func132.trans (congrArg some (by kernel_rfl))
  f338 := Tryd.func133.trans (congrArg some (by kernel_rfl))
  t0 := Tryd.underlying0
  a0 := Tryd.isAgg0
  z0 := Tryd.sizeOf0
  v0 := Tryd.zeroValue0
  t2 := Tryd.underlying2
  a2 := Tryd.isAgg2
  z2 := Tryd.sizeOf2
  v2 := Tryd.zeroValue2
  t3 := Tryd.underlying3
  a3 := Tryd.isAgg3
  z3 := Tryd.sizeOf3
  v3 := Tryd.zeroValue3
  t4 := Tryd.underlying4
  a4 := Tryd.isAgg4
  z4 := Tryd.sizeOf4
  v4 := Tryd.zeroValue4
  t5 := Tryd.underlying5
  a5 := Tryd.isAgg5
  z5 := Tryd.sizeOf5
  v5 := Tryd.zeroValue5
  t9 := Tryd.underlying9
  a9 := Tryd.isAgg9
  z9 := Tryd.sizeOf9
  v9 := Tryd.zeroValue9
  t20 := Tryd.underlying20
  a20 := Tryd.isAgg20
  z20 := Tryd.sizeOf20
  v20 := Tryd.zeroValue20
  t21 := Tryd.underlying21
  a21 := Tryd.isAgg21
  z21 := Tryd.sizeOf21
  v21 := Tryd.zeroValue21
  t37 := Tryd.underlying36
  a37 := Tryd.isAgg36
  z37 := Tryd.sizeOf36
  v37 := Tryd.zeroValue36
  t46 := Tryd.underlying50
  a46 := Tryd.isAgg50
  z46 := Tryd.sizeOf50
  v46 := Tryd.zeroValue50
  t51 := Tryd.underlying175
  a51 := Tryd.isAgg175
  z51 := Tryd.sizeOf175
  v51 := Tryd.zeroValue175
  t53 := Tryd.underlying49
  a53 := Tryd.isAgg49
  z53 := Tryd.sizeOf49
  v53 := Tryd.zeroValue49
  t75 := Tryd.underlying92
  a75 := Tryd.isAgg92
  z75 := Tryd.sizeOf92
  v75 := Tryd.zeroValue92
  t85 := Tryd.underlying106
  a85 := Tryd.isAgg106
  z85 := Tryd.sizeOf106
  v85 := Tryd.zeroValue106
  t127 := Tryd.underlying142
  a127 := Tryd.isAgg142
  z127 := Tryd.sizeOf142
  v127 := Tryd.zeroValue142
  t143 := Tryd.underlying195
  a143 := Tryd.isAgg195
  z143 := Tryd.sizeOf195
  v143 := Tryd.zeroValue195
  t145 := Tryd.underlying197
  a145 := Tryd.isAgg197
  z145 := Tryd.sizeOf197
  v145 := Tryd.zeroValue197
  t167 := Tryd.underlying162
  a167 := Tryd.isAgg162
  z167 := Tryd.sizeOf162
  v167 := Tryd.zeroValue162
  t168 := Tryd.underlying165
  a168 := Tryd.isAgg165
  z168 := Tryd.sizeOf165
  v168 := Tryd.zeroValue165
  t171 := Tryd.underlying156
  a171 := Tryd.isAgg156
  z171 := Tryd.sizeOf156
  v171 := Tryd.zeroValue156
  t173 := Tryd.underlying159
  a173 := Tryd.isAgg159
  z173 := Tryd.sizeOf159
  v173 := Tryd.zeroValue159
  t175 := Tryd.underlying163
  a175 := Tryd.isAgg163
  z175 := Tryd.sizeOf163
  v175 := Tryd.zeroValue163
  t210 := Tryd.underlying182
  a210 := Tryd.isAgg182
  z210 := Tryd.sizeOf182
  v210 := Tryd.zeroValue182
  t212 := Tryd.underlying174
  a212 := Tryd.isAgg174
  z212 := Tryd.sizeOf174
  v212 := Tryd.zeroValue174
  t213 := Tryd.underlying176
  a213 := Tryd.isAgg176
  z213 := Tryd.sizeOf176
  t232 := Tryd.underlying209
  a232 := Tryd.isAgg209
  z232 := Tryd.sizeOf209
  v232 := Tryd.zeroValue209
  t233 := Tryd.underlying210
  a233 := Tryd.isAgg210
  z233 := Tryd.sizeOf210
  v233 := Tryd.zeroValue210
  g15 := by kernel_rfl
  g16 := by kernel_rfl
  g17 := by kernel_rfl
  g18 := by kernel_rfl
  g19 := by kernel_rfl
  t80 := Tryd.underlying96
  a80 := Tryd.isAgg96
  z80 := Tryd.sizeOf96
  v80 := Tryd.zeroValue96
  i0 := by kernel_rfl
  i2 := by kernel_rfl
  i3 := by kernel_rfl
  i4 := by kernel_rfl
  i5 := by kernel_rfl
  i9 := by kernel_rfl
  i20 := by kernel_rfl
  i21 := by kernel_rfl
  i37 := by kernel_rfl
  i46 := by kernel_rfl
  i51 := by kernel_rfl
  i53 := by kernel_rfl
  i75 := by kernel_rfl
  i80 := by kernel_rfl
  i85 := by kernel_rfl
  i127 := by kernel_rfl
  i143 := by kernel_rfl
  i145 := by kernel_rfl
  i167 := by kernel_rfl
  i168 := by kernel_rfl
  i171 := by kernel_rfl
  i173 := by kernel_rfl
  i175 := by kernel_rfl
  i210 := by kernel_rfl
  i212 := by kernel_rfl
  i232 := by kernel_rfl
  i233 := by kernel_rfl
  m15 := by kernel_rfl
  m16 := by kernel_rfl
  m17 := by kernel_rfl
  m18 := by kernel_rfl
  m19 := by kernel_rfl
  c0 := by kernel_rfl
  c2 := by kernel_rfl
  c3 := by kernel_rfl
  c4 := by kernel_rfl
  c5 := by kernel_rfl
  c9 := by kernel_rfl
  c20 := by kernel_rfl
  c21 := by kernel_rfl
  c37 := by kernel_rfl
  c46 := by kernel_rfl
  c51 := by kernel_rfl
  c53 := by kernel_rfl
  c75 := by kernel_rfl
  c80 := by kernel_rfl
  c85 := by kernel_rfl
  c127 := by kernel_rfl
  c143 := by kernel_rfl
  c145 := by kernel_rfl
  c167 := by kernel_rfl
  c168 := by kernel_rfl
  c171 := by kernel_rfl
  c173 := by kernel_rfl
  c175 := by kernel_rfl
  c210 := by kernel_rfl
  c212 := by kernel_rfl
  c213 := by kernel_rfl
  c232 := by kernel_rfl
  c233 := by kernel_rfl }
open Go.RowKit in
theorem Tryd.strconv_ParseInt_10_at64_ok (s : ByteArray) (hmax : s.size ≤ 9223372036854775806) (v : Int) (h : Lib.parseIntB 64 s.data.toList = .ok v) (w : World) :
    Calls Tryd.prog 60 #[.string s, .int .i64 10, .int .i64 64] w fun e w' => e = .returned (.tuple #[.int .i64 v, .nilIface]) ∧ (w' = w ∨ ∃ t, w' = Lib.bytesWorld w 5 t) := Any.strconv_ParseInt_10_at64_ok Tryd.laysC174 s hmax v h w
open Go.RowKit in
theorem Tryd.strconv_ParseInt_10_at64_syntax (s : ByteArray) (hlim : s.size ≤ 281474976710656) (h : (∀ v, Lib.parseIntB 64 s.data.toList ≠ .ok v) ∧ Lib.parseIntB 64 s.data.toList ≠ .range) (ev : Value) (w : World) (hv : w.cell? ⟨5, 0, none⟩ = some ev) (hev : ev = .nilIface ∨ ∃ te pe, ev = .iface te pe) :
    Calls Tryd.prog 60 #[.string s, .int .i64 10, .int .i64 64] w fun e w' => ∃ N, e = .returned (.tuple #[.int .i64 (0), .iface 165 (.pointer (some ⟨N, 0, none⟩))]) ∧ w.heap.size ≤ N ∧ w'.heap[N]? = some (.cells #[.string ⟨#[80, 97, 114, 115, 101, 73, 110, 116]⟩, .string s, ev] 182 (0, 0)) ∧ Below w.heap.size w w' := by
  cases hp : Lib.parseIntB 64 s.data.toList with
  | ok v => exact absurd hp (h.1 v)
  | range => exact absurd hp h.2
  | _ => exact Any.strconv_ParseInt_10_at64_syntax Tryd.laysC174 s hlim hp ev w hv hev
open Go.RowKit in
theorem Tryd.strconv_ParseInt_10_at64_range (s : ByteArray) (hlim : s.size ≤ 281474976710656) (h : Lib.parseIntB 64 s.data.toList = .range) (ev : Value) (w : World) (hv : w.cell? ⟨6, 0, none⟩ = some ev) (hev : ev = .nilIface ∨ ∃ te pe, ev = .iface te pe) :
    Calls Tryd.prog 60 #[.string s, .int .i64 10, .int .i64 64] w fun e w' => ∃ N, e = .returned (.tuple #[.int .i64 (Lib.intSat 64 s.data.toList), .iface 165 (.pointer (some ⟨N, 0, none⟩))]) ∧ w.heap.size ≤ N ∧ w'.heap[N]? = some (.cells #[.string ⟨#[80, 97, 114, 115, 101, 73, 110, 116]⟩, .string s, ev] 182 (0, 0)) ∧ Below w.heap.size w w' := Any.strconv_ParseInt_10_at64_range Tryd.laysC174 s hlim h ev w hv hev
def Tryd.lays145_ren : Go.Shelf.Ren := ⟨fun | 145 => 58 | 220 => 83 | 219 => 99 | 217 => 98 | 225 => 120 | 224 => 121 | 267 => 122 | 266 => 119 | 314 => 134 | n => n, fun | 9 => 9 | 4 => 4 | 59 => 103 | 3 => 3 | 5 => 5 | 46 => 50 | 146 => 193 | 51 => 175 | n => n, fun | 1 => 4 | n => n⟩
theorem Tryd.lays145 : Go.Proofs.Lays.n145 Tryd.prog Tryd.lays145_ren := {
  mixed := by kernel_rfl
  f145 := Tryd.func58.trans (congrArg some (by kernel_rfl))
  f217 := Tryd.func98.trans (congrArg some (by kernel_rfl))
  f219 := Tryd.func99.trans (congrArg some (by kernel_rfl))
  f220 := Tryd.func83.trans (congrArg some (by kernel_rfl))
  f224 := Tryd.func121.trans (congrArg some (by kernel_rfl))
  f225 := Tryd.func120.trans (congrArg some (by kernel_rfl))
  f266 := Tryd.func119.trans (congrArg some (by kernel_rfl))
  f267 := Tryd.func122.trans (congrArg some (by kernel_rfl))
  f314 := Tryd.func134.trans (congrArg some (by kernel_rfl))
  t3 := Tryd.underlying3
  a3 := Tryd.isAgg3
  z3 := Tryd.sizeOf3
  v3 := Tryd.zeroValue3
  t4 := Tryd.underlying4
  a4 := Tryd.isAgg4
  z4 := Tryd.sizeOf4
  v4 := Tryd.zeroValue4
  t5 := Tryd.underlying5
  a5 := Tryd.isAgg5
  z5 := Tryd.sizeOf5
  v5 := Tryd.zeroValue5
  t9 := Tryd.underlying9
  a9 := Tryd.isAgg9
  z9 := Tryd.sizeOf9
  v9 := Tryd.zeroValue9
  t46 := Tryd.underlying50
  a46 := Tryd.isAgg50
  z46 := Tryd.sizeOf50
  v46 := Tryd.zeroValue50
  t51 := Tryd.underlying175
  a51 := Tryd.isAgg175
  z51 := Tryd.sizeOf175
  v51 := Tryd.zeroValue175
  t59 := Tryd.underlying103
  a59 := Tryd.isAgg103
  z59 := Tryd.sizeOf103
  v59 := Tryd.zeroValue103
  t146 := Tryd.underlying193
  a146 := Tryd.isAgg193
  z146 := Tryd.sizeOf193
  v146 := Tryd.zeroValue193
  g1 := by kernel_rfl }
open Go.RowKit Go.Lib in
theorem Tryd.strings_Cut (s sep : ByteArray) (m : Int) (w : World) (hs : s.size < 4294967281) (hm : w.cell? ⟨4, 0, none⟩ = some (.int .i64 m)) :
    Calls Tryd.prog 58 #[.string s, .string sep] w fun e w' => e = .returned (.tuple #[.string ⟨(Lib.cut s.data.toList sep.data.toList).1.toArray⟩, .string ⟨(Lib.cut s.data.toList sep.data.toList).2.1.toArray⟩, .bool (Lib.cut s.data.toList sep.data.toList).2.2]) ∧ ∃ n, w' = w.drewN n := Any.strings_Cut Tryd.lays145 s sep m w hs hm
def Tryd.lays138_ren : Go.Shelf.Ren := ⟨fun | 138 => 112 | 195 => 129 | 218 => 131 | 143 => 113 | 219 => 99 | 217 => 98 | 225 => 120 | 224 => 121 | 267 => 122 | 266 => 119 | 314 => 134 | n => n, fun | 9 => 9 | 3 => 3 | 4 => 4 | 5 => 5 | 0 => 0 | 46 => 50 | 146 => 193 | 51 => 175 | n => n, fun | 1 => 4 | n => n⟩
theorem Tryd.lays138 : Go.Proofs.Lays.n138 Tryd.prog Tryd.lays138_ren := {
  mixed := by kernel_rfl
  f138 := Tryd.func112.trans (congrArg some (by kernel_rfl))
  f143 := Tryd.func113.trans (congrArg some (by kernel_rfl))
  f195 := Tryd.func129.trans (congrArg some (by kernel_rfl))
  f217 := Tryd.func98.trans (congrArg some (by kernel_rfl))
  f218 := Tryd.func131.trans (congrArg some (by kernel_rfl))
  f219 := Tryd.func99.trans (congrArg some (by kernel_rfl))
  f224 := Tryd.func121.trans (congrArg some (by kernel_rfl))
  f225 := Tryd.func120.trans (congrArg some (by kernel_rfl))
  f266 := Tryd.func119.trans (congrArg some (by kernel_rfl))
  f267 := Tryd.func122.trans (congrArg some (by kernel_rfl))
  f314 := Tryd.func134.trans (congrArg some (by kernel_rfl))
  t0 := Tryd.underlying0
  a0 := Tryd.isAgg0
  z0 := Tryd.sizeOf0
  v0 := Tryd.zeroValue0
  t3 := Tryd.underlying3
  a3 := Tryd.isAgg3
  z3 := Tryd.sizeOf3
  v3 := Tryd.zeroValue3
  t4 := Tryd.underlying4
  a4 := Tryd.isAgg4
  z4 := Tryd.sizeOf4
  v4 := Tryd.zeroValue4
  t5 := Tryd.underlying5
  a5 := Tryd.isAgg5
  z5 := Tryd.sizeOf5
  v5 := Tryd.zeroValue5
  t9 := Tryd.underlying9
  a9 := Tryd.isAgg9
  z9 := Tryd.sizeOf9
  v9 := Tryd.zeroValue9
  t46 := Tryd.underlying50
  a46 := Tryd.isAgg50
  z46 := Tryd.sizeOf50
  v46 := Tryd.zeroValue50
  t51 := Tryd.underlying175
  a51 := Tryd.isAgg175
  z51 := Tryd.sizeOf175
  v51 := Tryd.zeroValue175
  t146 := Tryd.underlying193
  a146 := Tryd.isAgg193
  z146 := Tryd.sizeOf193
  v146 := Tryd.zeroValue193
  g1 := by kernel_rfl }
open Go.RowKit Go.Lib in
theorem Tryd.strings_Count_one (s : ByteArray) (c : UInt8) (w : World) :
    Calls Tryd.prog 112 #[.string s, .string ⟨#[c]⟩] w fun e w' => e = .returned (.int .i64 (Lib.countByte s.data.toList c)) ∧ w' = w := Any.strings_Count_one Tryd.lays138 s c w
def Tryd.lays100_ren : Go.Shelf.Ren := ⟨fun | 100 => 56 | 207 => 80 | n => n, fun | 9 => 9 | 4 => 4 | 3 => 3 | n => n, fun | n => n⟩
theorem Tryd.lays100 : Go.Proofs.Lays.n100 Tryd.prog Tryd.lays100_ren := {
  mixed := by kernel_rfl
  f100 := Tryd.func56.trans (congrArg some (by kernel_rfl))
  f207 := Tryd.func80.trans (congrArg some (by kernel_rfl))
  t3 := Tryd.underlying3
  a3 := Tryd.isAgg3
  z3 := Tryd.sizeOf3
  v3 := Tryd.zeroValue3
  t4 := Tryd.underlying4
  a4 := Tryd.isAgg4
  z4 := Tryd.sizeOf4
  v4 := Tryd.zeroValue4
  t9 := Tryd.underlying9
  a9 := Tryd.isAgg9
  z9 := Tryd.sizeOf9
  v9 := Tryd.zeroValue9 }
open Go.RowKit Go.Lib in
theorem Tryd.strings_HasSuffix (s p : ByteArray) (w : World) (hs : s.size ≤ 9223372036854775807) :
    Calls Tryd.prog 56 #[.string s, .string p] w fun e w' => e = .returned (.bool (Lib.hasSuffix s.data.toList p.data.toList)) ∧ w' = w := Any.strings_HasSuffix Tryd.lays100 s p w hs
def Tryd.lays102_ren : Go.Shelf.Ren := ⟨fun | 102 => 59 | 209 => 84 | 207 => 80 | n => n, fun | 9 => 9 | 4 => 4 | 3 => 3 | n => n, fun | n => n⟩
theorem Tryd.lays102 : Go.Proofs.Lays.n102 Tryd.prog Tryd.lays102_ren := {
  mixed := by kernel_rfl
  f102 := Tryd.func59.trans (congrArg some (by kernel_rfl))
  f207 := Tryd.func80.trans (congrArg some (by kernel_rfl))
  f209 := Tryd.func84.trans (congrArg some (by kernel_rfl))
  t3 := Tryd.underlying3
  a3 := Tryd.isAgg3
  z3 := Tryd.sizeOf3
  v3 := Tryd.zeroValue3
  t4 := Tryd.underlying4
  a4 := Tryd.isAgg4
  z4 := Tryd.sizeOf4
  v4 := Tryd.zeroValue4
  t9 := Tryd.underlying9
  a9 := Tryd.isAgg9
  z9 := Tryd.sizeOf9
  v9 := Tryd.zeroValue9 }
open Go.RowKit Go.Lib in
theorem Tryd.strings_TrimSuffix (s p : ByteArray) (w : World) (hs : s.size ≤ 9223372036854775807) :
    Calls Tryd.prog 59 #[.string s, .string p] w fun e w' => e = .returned (.string ⟨(Lib.trimSuffix s.data.toList p.data.toList).toArray⟩) ∧ w' = w := Any.strings_TrimSuffix Tryd.lays102 s p w hs
def Tryd.lays146_ren : Go.Shelf.Ren := ⟨fun | 146 => 71 | 221 => 92 | 268 => 111 | 138 => 112 | 143 => 113 | 195 => 129 | 197 => 130 | 218 => 131 | 219 => 99 | 260 => 138 | 217 => 98 | 225 => 120 | 224 => 121 | 267 => 122 | 266 => 119 | 314 => 134 | n => n, fun | 9 => 9 | 31 => 133 | 3 => 3 | 4 => 4 | 0 => 0 | 105 => 190 | 21 => 21 | 5 => 5 | 46 => 50 | 119 => 168 | 139 => 215 | 138 => 214 | 146 => 193 | 51 => 175 | n => n, fun | 1 => 4 | 3 => 10 | 4 => 11 | n => n⟩
theorem Tryd.lays146 : Go.Proofs.Lays.n146 Tryd.prog Tryd.lays146_ren := {
  mixed := by kernel_rfl
  f138 := Tryd.func112.trans (congrArg some (by kernel_rfl))
  f143 := Tryd.func113.trans (congrArg some (by kernel_rfl))
  f146 := Tryd.func71.trans (congrArg some (by kernel_rfl))
  f195 := Tryd.func129.trans (congrArg some (by kernel_rfl))
  f197 := Tryd.func130.trans (congrArg some (by kernel_rfl))
  f217 := Tryd.func98.trans (congrArg some (by kernel_rfl))
  f218 := Tryd.func131.trans (congrArg some (by kernel_rfl))
  f219 := Tryd.func99.trans (congrArg some (by kernel_rfl))
  f221 := Tryd.func92.trans (congrArg some (by kernel_rfl))
  f224 := Tryd.func121.trans (congrArg some (by kernel_rfl))
  f225 := Tryd.func120.trans (congrArg some (by kernel_rfl))
  f260 := Tryd.func138.trans (congrArg some (by kernel_rfl))
  f266 := Tryd.func119.trans (congrArg some (by kernel_rfl))
  f267 := Tryd.func122.trans (congrArg some (by kernel_rfl))
  f268 := Tryd.func111.trans (congrArg some (by kernel_rfl))
  f314 := Tryd.func134.trans (congrArg some (by kernel_rfl))
  t0 := Tryd.underlying0
  a0 := Tryd.isAgg0
  z0 := Tryd.sizeOf0
  v0 := Tryd.zeroValue0
  t3 := Tryd.underlying3
  a3 := Tryd.isAgg3
  z3 := Tryd.sizeOf3
  v3 := Tryd.zeroValue3
  t4 := Tryd.underlying4
  a4 := Tryd.isAgg4
  z4 := Tryd.sizeOf4
  v4 := Tryd.zeroValue4
  t5 := Tryd.underlying5
  a5 := Tryd.isAgg5
  z5 := Tryd.sizeOf5
  v5 := Tryd.zeroValue5
  t9 := Tryd.underlying9
  a9 := Tryd.isAgg9
  z9 := Tryd.sizeOf9
  v9 := Tryd.zeroValue9
  t21 := Tryd.underlying21
  a21 := Tryd.isAgg21
  z21 := Tryd.sizeOf21
  v21 := Tryd.zeroValue21
  t31 := Tryd.underlying133
  a31 := Tryd.isAgg133
  z31 := Tryd.sizeOf133
  v31 := Tryd.zeroValue133
  t46 := Tryd.underlying50
  a46 := Tryd.isAgg50
  z46 := Tryd.sizeOf50
  v46 := Tryd.zeroValue50
  t51 := Tryd.underlying175
  a51 := Tryd.isAgg175
  z51 := Tryd.sizeOf175
  v51 := Tryd.zeroValue175
  t105 := Tryd.underlying190
  a105 := Tryd.isAgg190
  z105 := Tryd.sizeOf190
  v105 := Tryd.zeroValue190
  t119 := Tryd.underlying168
  a119 := Tryd.isAgg168
  z119 := Tryd.sizeOf168
  t138 := Tryd.underlying214
  a138 := Tryd.isAgg214
  z138 := Tryd.sizeOf214
  v138 := Tryd.zeroValue214
  t139 := Tryd.underlying215
  a139 := Tryd.isAgg215
  z139 := Tryd.sizeOf215
  v139 := Tryd.zeroValue215
  t146 := Tryd.underlying193
  a146 := Tryd.isAgg193
  z146 := Tryd.sizeOf193
  v146 := Tryd.zeroValue193
  g1 := by kernel_rfl
  g3 := by kernel_rfl
  g4 := by kernel_rfl }
open Go.RowKit Go.Lib in
theorem Tryd.strings_Split (s sep : ByteArray) (m : Int) (w : World) (hs : s.size < 4294967281) (hm : w.cell? ⟨4, 0, none⟩ = some (.int .i64 m)) (h1 : 1 ≤ sep.size) :
    Calls Tryd.prog 71 #[.string s, .string sep] w fun e w' =>
      e = .returned (.slice (some ⟨w.heap.size, 0, none⟩) (Lib.countB s sep + 1) (Lib.countB s sep + 1)) ∧ w' = w.alloc (.cells ((Lib.splitB sep 0 (Lib.countB s sep) s).map Value.string).toArray 9) := Any.strings_Split Tryd.lays146 (by kernel_rfl) s sep m w hs hm h1
def Tryd.lays157_ren : Go.Shelf.Ren := ⟨fun | 157 => 88 | 229 => 105 | 199 => 106 | 261 => 128 | 311 => 136 | 312 => 137 | n => n, fun | 9 => 9 | 31 => 133 | 3 => 3 | 5 => 5 | 4 => 4 | 119 => 168 | 0 => 0 | 40 => 170 | 152 => 184 | 21 => 21 | 154 => 186 | 51 => 175 | 141 => 188 | 196 => 201 | 193 => 198 | 198 => 204 | 49 => 202 | 194 => 199 | 201 => 207 | 226 => 211 | 46 => 50 | 227 => 212 | n => n, fun | 0 => 2 | 6 => 7 | n => n⟩
theorem Tryd.lays157 : Go.Proofs.Lays.n157 Tryd.prog Tryd.lays157_ren := {
  mixed := by kernel_rfl
  f157 := Tryd.func88.trans (congrArg some (by kernel_rfl))
  f199 := Tryd.func106.trans (congrArg some (by kernel_rfl))
  f229 := Tryd.func105.trans (congrArg some (by kernel_rfl))
  f261 := Tryd.func128.trans (congrArg some (by kernel_rfl))
  f311 := Tryd.func136.trans (congrArg some (by kernel_rfl))
  f312 := Tryd.func137.trans (congrArg some (by kernel_rfl))
  t0 := Tryd.underlying0
  a0 := Tryd.isAgg0
  z0 := Tryd.sizeOf0
  v0 := Tryd.zeroValue0
  t3 := Tryd.underlying3
  a3 := Tryd.isAgg3
  z3 := Tryd.sizeOf3
  v3 := Tryd.zeroValue3
  t4 := Tryd.underlying4
  a4 := Tryd.isAgg4
  z4 := Tryd.sizeOf4
  v4 := Tryd.zeroValue4
  t5 := Tryd.underlying5
  a5 := Tryd.isAgg5
  z5 := Tryd.sizeOf5
  v5 := Tryd.zeroValue5
  t9 := Tryd.underlying9
  a9 := Tryd.isAgg9
  z9 := Tryd.sizeOf9
  v9 := Tryd.zeroValue9
  t21 := Tryd.underlying21
  a21 := Tryd.isAgg21
  z21 := Tryd.sizeOf21
  v21 := Tryd.zeroValue21
  t31 := Tryd.underlying133
  a31 := Tryd.isAgg133
  z31 := Tryd.sizeOf133
  v31 := Tryd.zeroValue133
  t40 := Tryd.underlying170
  a40 := Tryd.isAgg170
  z40 := Tryd.sizeOf170
  v40 := Tryd.zeroValue170
  t46 := Tryd.underlying50
  a46 := Tryd.isAgg50
  z46 := Tryd.sizeOf50
  v46 := Tryd.zeroValue50
  t49 := Tryd.underlying202
  a49 := Tryd.isAgg202
  z49 := Tryd.sizeOf202
  v49 := Tryd.zeroValue202
  t51 := Tryd.underlying175
  a51 := Tryd.isAgg175
  z51 := Tryd.sizeOf175
  v51 := Tryd.zeroValue175
  t119 := Tryd.underlying168
  a119 := Tryd.isAgg168
  z119 := Tryd.sizeOf168
  t141 := Tryd.underlying188
  a141 := Tryd.isAgg188
  z141 := Tryd.sizeOf188
  v141 := Tryd.zeroValue188
  t152 := Tryd.underlying184
  a152 := Tryd.isAgg184
  z152 := Tryd.sizeOf184
  v152 := Tryd.zeroValue184
  t154 := Tryd.underlying186
  a154 := Tryd.isAgg186
  z154 := Tryd.sizeOf186
  v154 := Tryd.zeroValue186
  t193 := Tryd.underlying198
  a193 := Tryd.isAgg198
  z193 := Tryd.sizeOf198
  v193 := Tryd.zeroValue198
  t194 := Tryd.underlying199
  a194 := Tryd.isAgg199
  z194 := Tryd.sizeOf199
  v194 := Tryd.zeroValue199
  t196 := Tryd.underlying201
  a196 := Tryd.isAgg201
  z196 := Tryd.sizeOf201
  v196 := Tryd.zeroValue201
  t198 := Tryd.underlying204
  a198 := Tryd.isAgg204
  z198 := Tryd.sizeOf204
  v198 := Tryd.zeroValue204
  t201 := Tryd.underlying207
  a201 := Tryd.isAgg207
  z201 := Tryd.sizeOf207
  v201 := Tryd.zeroValue207
  t226 := Tryd.underlying211
  a226 := Tryd.isAgg211
  z226 := Tryd.sizeOf211
  v226 := Tryd.zeroValue211
  t227 := Tryd.underlying212
  a227 := Tryd.isAgg212
  z227 := Tryd.sizeOf212
  v227 := Tryd.zeroValue212
  g0 := by kernel_rfl
  g6 := by kernel_rfl }
open Go.RowKit Go.Lib in
theorem Tryd.strings_Fields (s : ByteArray) (w : World) (hs : s.size < 4294967281) (hascii : ∀ (j : Nat) b, s.data.toList[j]? = some b → b.toNat < 128) (htab : Lib.TabIs Tryd.prog w "strings.asciiSpace" .u8 Lib.asciiSpaceTab) :
    Calls Tryd.prog 88 #[.string s] w fun e w' =>
      e = .returned (.slice (some ⟨w.heap.size, 0, none⟩) (Lib.fields s.data.toList).length (Lib.fields s.data.toList).length) ∧ w' = w.alloc (.cells ((Lib.fields s.data.toList).map fun l => Value.string ⟨l.toArray⟩).toArray 9) := Any.strings_Fields Tryd.lays157 (by kernel_rfl) (by kernel_rfl) s w hs hascii htab
end Go.Proofs

-- THE DATA LEVEL, PART 9: slices that are built up; plain lists seen as slices.
namespace Go.Dl
open Go Go.RowKit

/-- The call returns v; nothing else turns. -/
abbrev DRet (v : DVal) (H : DHeap) : DEnd → DHeap → Prop := fun e H' => e = .ret v ∧ H' = H

/-- v is nil (and then there are no cells), or a slice over a whole block of the call's own, of n elements, whose cells are cs; H' is H with that block. -/
def OwnA (H : DHeap) (e : TypeId) (size n : Nat) (cs : List DVal) (v : DVal) (H' : DHeap) : Prop :=
  (n = 0 ∧ cs = [] ∧ v = .nilSlice ∧ H' = H) ∨ ∃ r, H r = none ∧ cs.length = n * size ∧ v = .oslice size r 0 n n ∧ H' = upd H r (some (.cells cs e))

section
variable {P : Program} {G : Nat → DVal} {Q : DExit → DS → Prop}

theorem OwnA.nil (H : DHeap) (e : TypeId) (size : Nat) : OwnA H e size 0 [] .nilSlice H := .inl ⟨rfl, rfl, rfl, rfl⟩

theorem upd_self {α : Type} {f : Nat → α} {r : Nat} {x : α} (h : f r = x) : upd f r x = f := by
  funext i; simp only [upd]; split
  · rename_i e; rw [e, h]
  · rfl

theorem dAppendO_in {e : TypeId} {size bytes r off len lo n : Nat} {news : List DVal} {dst : Option Nat} {K : DK} {s : DS} {cs : List DVal} (h : len + n ≤ lo) :
    dAppendO e size bytes r off len lo n news dst K s (some (.cells cs e)) = (off + (len + n) * size ≤ cs.length ∧
        K ⟨updO s.env dst (.oslice size r off (len + n) lo), upd s.heap r (some (.cells (splice cs (off + len * size) news) e))⟩) := by
  simp only [dAppendO, true_and, eq_iff_iff]
  exact ⟨fun k => k.1 h, fun k => ⟨fun _ => k, fun hn => (hn h).elim⟩⟩

theorem dAppendO_out {e : TypeId} {size bytes r len lo n : Nat} {news : List DVal} {dst : Option Nat} {K : DK} {s : DS} {cs : List DVal} (hle : len ≤ lo) (h : lo < len + n) :
    dAppendO e size bytes r 0 len lo n news dst K s (some (.cells cs e)) = (len * size ≤ cs.length ∧ (len + n) * bytes ≤ 35184372088832 ∧ ∀ r', upd s.heap r none r' = none →
        K ⟨updO s.env dst (.oslice size r' 0 (len + n) (len + n)), upd (upd s.heap r none) r' (some (.cells (cs.take (len * size) ++ news) e))⟩) := by
  simp only [dAppendO, true_and, eq_iff_iff, hle, true_or, if_true]
  have hn : ¬ len + n ≤ lo := by omega
  refine ⟨fun k => ?_, fun k => ⟨fun hh => (hn hh).elim, fun _ => ?_⟩⟩
  · obtain ⟨k1, k2, k3⟩ := k.2 hn
    refine ⟨by omega, k2, fun r' hr => ?_⟩
    have := k3 r' [] hr (fun _ => rfl)
    simpa using this
  · obtain ⟨k1, k2, k3⟩ := k
    refine ⟨by omega, k2, fun r' pre hr hp => ?_⟩
    have hpre := hp trivial
    subst hpre
    have := k3 r' hr
    simpa using this

/-- append where less room is known than there are elements: the old block stays (longer, if it grew in place). -/
theorem dAppendO_keep {e : TypeId} {size bytes r len lo n : Nat} {news : List DVal} {dst : Option Nat} {K : DK} {s : DS} {cs : List DVal} (h : lo < len) (hl : len * size ≤ cs.length) (hb : (len + n) * bytes ≤ 35184372088832)
    (hK : ∀ r', r' = r ∨ s.heap r' = none → K ⟨updO s.env dst (.oslice size r' 0 (len + n) (len + n)), upd s.heap r' (some (.cells (cs.take (len * size) ++ news) e))⟩) : dAppendO e size bytes r 0 len lo n news dst K s (some (.cells cs e)) := by
  simp only [dAppendO, true_and]
  have hn : ¬ len + n ≤ lo := by omega
  refine ⟨fun k => (hn k).elim, fun _ => ⟨by omega, hb, fun r' pre hr hp => ?_⟩⟩
  have hpre := hp trivial
  subst hpre
  by_cases e1 : r' = r
  · subst e1
    have := hK r' (.inl rfl)
    rw [if_pos (.inr rfl), upd_upd]
    simpa using this
  · have := hK r' (.inr (by simpa [upd, e1] using hr))
    rw [if_neg (by omega)]
    simpa using this

/-- **append** to a slice that is being built up. -/
theorem OwnA.append {H H0 : DHeap} {e : TypeId} {size bytes n m : Nat} {cs news : List DVal} {v : DVal} {dst : Option Nat} {K : DK} {env : Nat → DVal} (hv : OwnA H e size n cs v H0) (hm : news.length = m * size) (hb : (n + m) * bytes ≤ 35184372088832)
    (hK : ∀ v' H', OwnA H e size (n + m) (cs ++ news) v' H' → K ⟨updO env dst v', H'⟩) : dAppendTo e size bytes m news dst v K ⟨env, H0⟩ := by
  rcases hv with ⟨rfl, rfl, rfl, rfl⟩ | ⟨r, hr, hl, rfl, rfl⟩
  · simp only [dAppendTo]
    refine ⟨fun h0 => ?_, fun h0 => ⟨by simpa using hb, fun r hr => ?_⟩⟩
    · subst h0
      have : news = [] := List.length_eq_zero_iff.1 (by omega)
      subst this
      exact hK _ _ (.inl ⟨rfl, rfl, rfl, rfl⟩)
    · refine hK _ _ (.inr ⟨r, hr, by simpa using hm, by simp, by simp⟩)
  · simp only [dAppendTo, true_and]
    rw [upd_same]
    by_cases h0 : m = 0
    · subst h0
      have : news = [] := List.length_eq_zero_iff.1 (by omega)
      subst this
      rw [dAppendO_in (by omega)]
      refine ⟨by simp [hl], ?_⟩
      have := hK (.oslice size r 0 (n + 0) n) (upd H r (some (.cells cs e))) (.inr ⟨r, hr, by simpa using hl, by simp, by simp⟩)
      simp only [splice, List.length_nil, List.append_nil, Nat.add_zero, List.take_append_drop, upd_upd]
      simpa using this
    · rw [dAppendO_out (by omega) (by omega)]
      refine ⟨by omega, hb, fun r' hr' => ?_⟩
      have hu : upd (upd H r (some (.cells cs e))) r none = H := upd_none_self hr _
      simp only [hu] at hr' ⊢
      refine hK _ _ (.inr ⟨r', hr', ?_, rfl, ?_⟩)
      · simp [hl, hm, Nat.add_mul]
      · rw [List.take_of_length_le (by omega)]

theorem GhostE.slice {H : DHeap} {e : TypeId} {size n lo : Nat} {cs rest : List DVal} {r : Nat} (hr : H r = none) (hl : cs.length = n * size) : GhostE (upd H r (some (.cells (cs ++ rest) e))) (.oslice size r 0 n lo) H (.vslice cs n) := by
  have := GhostE.fz (v := .oslice size r 0 n lo) (upd_same H r (some (.cells (cs ++ rest) e)))
  rw [upd_none_self hr] at this
  simp only [Dl.fz, if_pos, List.drop_zero] at this
  rw [ List.take_append_of_le_length (by omega), List.take_of_length_le (by omega)] at this
  exact this

/-- The same, with spare room behind. -/
def OwnB (H : DHeap) (e : TypeId) (size n : Nat) (cs : List DVal) (v : DVal) (H' : DHeap) : Prop :=
  (n = 0 ∧ cs = [] ∧ v = .nilSlice ∧ H' = H) ∨ ∃ r lo rest, H r = none ∧ cs.length = n * size ∧ v = .oslice size r 0 n lo ∧ H' = upd H r (some (.cells (cs ++ rest) e))
theorem OwnA.b {H H0 : DHeap} {e : TypeId} {size n : Nat} {cs : List DVal} {v : DVal} (hv : OwnA H e size n cs v H0) : OwnB H e size n cs v H0 := by
  rcases hv with h | ⟨r, hr, hl, h1, h2⟩
  · exact .inl h
  · exact .inr ⟨r, n, [], hr, hl, h1, by simpa using h2⟩
theorem OwnB.ghost {H H0 : DHeap} {e : TypeId} {size n : Nat} {cs : List DVal} {v : DVal} (hv : OwnB H e size n cs v H0) : GhostE H0 v H (.vslice cs n) := by
  rcases hv with ⟨rfl, rfl, rfl, rfl⟩ | ⟨r, lo, rest, hr, hl, rfl, rfl⟩
  · intro w hw
    refine ⟨hw, fun _ h => h, fun x hx => ?_⟩
    simp only [Rel] at hx ⊢
    exact ⟨none, 0, hx, Nat.le_refl _, .inl (by simp)⟩
  · exact .slice hr hl
theorem DCalls.frozenB {f : FuncId} {args : List DVal} {H : DHeap} {e : TypeId} {size n : Nat} {cs : List DVal} (h : DCalls P G f args H fun x H' => ∃ v, x = .ret v ∧ OwnB H e size n cs v H') : DCalls P G f args H (DRet (.vslice cs n) H) :=
  h.ghost fun x H' ⟨v, h1, h2⟩ => ⟨v, _, H, h1, h2.ghost, rfl, rfl⟩

/-- Seen as memory that lasts. -/
theorem OwnA.ghost {H H0 : DHeap} {e : TypeId} {size n : Nat} {cs : List DVal} {v : DVal} (hv : OwnA H e size n cs v H0) : GhostE H0 v H (.vslice cs n) := by
  rcases hv with ⟨rfl, rfl, rfl, rfl⟩ | ⟨r, hr, hl, rfl, rfl⟩
  · intro w hw
    refine ⟨hw, fun _ h => h, fun x hx => ?_⟩
    simp only [Rel] at hx ⊢
    exact ⟨none, 0, hx, Nat.le_refl _, .inl (by simp)⟩
  · have := GhostE.fz (v := .oslice size r 0 n n) (upd_same H r (some (.cells cs e)))
    rw [upd_none_self hr] at this
    simp only [fz, if_pos, List.drop_zero] at this
    rw [List.take_of_length_le (by omega)] at this
    exact this

theorem OwnA.fin {R : DEnd → DHeap → Prop} {H H0 : DHeap} {e : TypeId} {size n : Nat} {cs : List DVal} {v : DVal} (hv : OwnA H e size n cs v H0) (h : R (.ret (.vslice cs n)) H) : DFin R v H0 := .ghost hv.ghost (.refl h)

/-- A result that is the call's own, seen as memory that lasts. -/
theorem DCalls.frozen {f : FuncId} {args : List DVal} {H : DHeap} {e : TypeId} {size n : Nat} {cs : List DVal} (h : DCalls P G f args H fun x H' => ∃ v, x = .ret v ∧ OwnA H e size n cs v H') : DCalls P G f args H (DRet (.vslice cs n) H) :=
  h.ghost fun x H' ⟨v, h1, h2⟩ => ⟨v, _, H, h1, h2.ghost, rfl, rfl⟩

end

/-- Whatever d describes, d' describes. -/
def DLe (d d' : DVal) : Prop := ∀ (w : World) (H : DHeap) (x : Value), Rel w H d x → Rel w H d' x
def DLes (ds ds' : List DVal) : Prop := ∀ (w : World) (H : DHeap) (x : List Value), RelL w H ds x → RelL w H ds' x
theorem DLe.refl (d : DVal) : DLe d d := fun _ _ _ h => h
theorem DLes.nil : DLes [] [] := fun _ _ _ h => h
theorem DLes.refl (ds : List DVal) : DLes ds ds := fun _ _ _ h => h
theorem DLes.cons {d d' : DVal} {ds ds' : List DVal} (h : DLe d d') (k : DLes ds ds') : DLes (d :: ds) (d' :: ds') := fun w H x hx => by
  simp only [RelL] at hx ⊢
  obtain ⟨y, ys, rfl, h1, h2⟩ := hx
  exact ⟨y, ys, rfl, h _ _ _ h1, k _ _ _ h2⟩
theorem DLe.nil : DLe .nilSlice (.vslice [] 0) := fun w H x hx => by
  simp only [Rel] at hx ⊢
  exact ⟨none, 0, hx, Nat.le_refl _, .inl (by simp)⟩
theorem DLe.vslice {cs cs' : List DVal} (n : Nat) (h : DLes cs cs') : DLe (.vslice cs n) (.vslice cs' n) := fun w H x hx => by
  simp only [Rel] at hx ⊢
  obtain ⟨a, cap, rfl, hle, h1⟩ := hx
  refine ⟨a, cap, rfl, hle, ?_⟩
  rcases h1 with rfl | ⟨b, o, xs, rfl, h1, h2⟩
  · have := h w H [] (by simp [RelL])
    cases cs' with
    | nil => exact .inl rfl
    | cons c cs' => simp [RelL] at this
  · exact .inr ⟨b, o, xs, rfl, h1, h _ _ _ h2⟩
theorem DLe.tuple {cs cs' : List DVal} (h : DLes cs cs') : DLe (.tuple cs) (.tuple cs') := fun w H x hx => by
  simp only [Rel] at hx ⊢
  obtain ⟨xs, rfl, h1⟩ := hx
  exact ⟨xs, rfl, h _ _ _ h1⟩
theorem DLe.agg {cs cs' : List DVal} (h : DLes cs cs') : DLe (.agg cs) (.agg cs') := fun w H x hx => by
  simp only [Rel] at hx ⊢
  obtain ⟨xs, rfl, h1⟩ := hx
  exact ⟨xs, rfl, h _ _ _ h1⟩
theorem DLes.nils (n : Nat) : DLes (List.replicate n .nilSlice) (List.replicate n (.vslice [] 0)) := by
  induction n with
  | zero => exact DLes.nil
  | succ n ih => simp only [List.replicate_succ]; exact .cons .nil ih
theorem DFin.le {R : DEnd → DHeap → Prop} {v v' : DVal} {H : DHeap} (g : DLe v v') (h : DFin R v' H) : DFin R v H := .ghost (fun w hw => ⟨hw, fun _ h => h, fun x hx => g _ _ _ hx⟩) h
theorem DCalls.le {P : Program} {G : Nat → DVal} {f : FuncId} {args : List DVal} {H : DHeap} {v v' : DVal} (g : DLe v v') (h : DCalls P G f args H (DRet v H)) : DCalls P G f args H (DRet v' H) :=
  h.ghost fun x H' ⟨h1, h2⟩ => ⟨v, v', H, h1, fun w hw => by rw [h2] at hw ⊢; exact ⟨hw, fun _ h => h, fun x hx => g _ _ _ hx⟩, rfl, rfl⟩

/-- Block r is seen as memory that lasts, in the slots and in block ro. -/
theorem GhostS.fz2 {G : Nat → DVal} {s : DS} {r ro : Nat} {cs cso : List DVal} {e eo : TypeId} (hr : s.heap r = some (.cells cs e)) (ho : s.heap ro = some (.cells cso eo)) (hne : ro ≠ r) :
    GhostS G s ⟨fun i => Dl.fz r cs (s.env i), upd (upd s.heap r none) ro (some (.cells (fzs r cs cso) eo))⟩ := by
  intro w hH hG
  have hl1 := lasts_letGo s.heap r w
  have hl2 : Lasts (upd s.heap r none) w (upd (upd s.heap r none) ro (some (.cells (fzs r cs cso) eo))) w := by
    refine ⟨fun b i x hb hc => ⟨?_, hc⟩, Nat.le_refl _, fun _ _ => rfl⟩
    by_cases e : b = ro
    · subst e; simp only [upd, if_neg hne] at hb; rw [ho] at hb; cases hb
    · simp only [upd, if_neg e] at hb ⊢; exact hb
  refine ⟨?_, ?_, (hG.lasts hl1).lasts hl2, fun i x hx => (fz_rel hH hr _ _ hx).lasts hl2⟩
  · intro b o hb
    by_cases e : b = ro
    · subst e
      simp only [upd, if_pos] at hb; cases hb
      obtain ⟨xs, c, fz', h1, h2, h3, h4⟩ := hH _ _ ho
      exact ⟨xs, c, fz', h1, h2, (fzs_rel hH hr _ _ h3).lasts hl2, h4⟩
    · simp only [upd, if_neg e] at hb
      split at hb
      · cases hb
      · exact ((hH b o hb).lasts hl1).lasts hl2
  · intro b hb
    by_cases e : b = ro
    · subst e; rw [ho]; simp
    · simp only [upd, if_neg e] at hb
      split at hb
      · exact absurd rfl hb
      · exact hb

/-- Another block beside it. -/
theorem OwnA.frame {H H' : DHeap} {e : TypeId} {size n : Nat} {cs : List DVal} {v : DVal} (h : OwnA H e size n cs v H') {r : Nat} (hr : H' r = none) (o : DObj) : OwnA (upd H r (some o)) e size n cs v (upd H' r (some o)) ∧ H r = none := by
  rcases h with ⟨a, b, c, rfl⟩ | ⟨r0, a, b, c, rfl⟩
  · exact ⟨.inl ⟨a, b, c, rfl⟩, hr⟩
  · rw [upd_eq_none] at hr
    exact ⟨.inr ⟨r0, by simp [upd, hr, a], b, c, upd_swap hr.1 _ _ _⟩, hr.2.2⟩
theorem OwnA.unframe {H H' : DHeap} {e : TypeId} {size n : Nat} {cs : List DVal} {v : DVal} {r : Nat} {o : DObj} (h : OwnA (upd H r (some o)) e size n cs v H') (hr : H r = none) : OwnA H e size n cs v (upd H' r none) := by
  rcases h with ⟨a, b, c, rfl⟩ | ⟨r0, a, b, c, rfl⟩
  · exact .inl ⟨a, b, c, upd_none_self hr _⟩
  · rw [upd_eq_none] at a
    refine .inr ⟨r0, a.2.2, b, c, ?_⟩
    rw [upd_swap a.2.1, upd_none_self hr]
theorem GhostS.drop {G : Nat → DVal} (s : DS) (r : Nat) : GhostS G s ⟨s.env, upd s.heap r none⟩ := fun w hH hG =>
  ⟨hH.letGo r, fun b hb => by simp only [upd] at hb; split at hb <;> simp_all, hG.lasts (lasts_letGo _ r w), fun i x hx => Rel.lasts (lasts_letGo _ r w) _ _ hx⟩
theorem OwnA.ghostT {H H0 : DHeap} {e : TypeId} {size n : Nat} {cs : List DVal} {v : DVal} (hv : OwnA H e size n cs v H0) {ds : List DVal} (hd : ∀ r cs, fzs r cs ds = ds) : GhostE H0 (.tuple (v :: ds)) H (.tuple (.vslice cs n :: ds)) := by
  rcases hv with ⟨rfl, rfl, rfl, rfl⟩ | ⟨r, hr, hl, rfl, rfl⟩
  · exact fun w hw => ⟨hw, fun _ h => h, fun x hx => DLe.tuple (.cons .nil (.refl _)) _ _ _ hx⟩
  · have := GhostE.fz (v := .tuple (.oslice size r 0 n n :: ds)) (upd_same H r (some (.cells cs e)))
    rw [upd_none_self hr] at this
    simp only [Dl.fz, fzs, if_pos, List.drop_zero, hd] at this
    rw [List.take_of_length_le (by omega)] at this
    exact this

theorem GhostS.trans {G : Nat → DVal} {s s' s'' : DS} (h : GhostS G s s') (k : GhostS G s' s'') : GhostS G s s'' := fun w hH hG => by
  obtain ⟨h1, h2, h3, h4⟩ := h w hH hG
  obtain ⟨k1, k2, k3, k4⟩ := k w h1 h3
  exact ⟨k1, fun b hb => h2 b (k2 b hb), k3, fun i x hx => k4 i x (h4 i x hx)⟩

/-- A slice that has got a slice of the call's own (block rx) by way of block rc: both are let go, the new element is seen as memory that lasts. -/
theorem OwnA.settle {G : Nat → DVal} {H H' : DHeap} {e ex : TypeId} {k n lo : Nat} {cs cx : List DVal} {v : DVal} {rx rc : Nat} {oc : DObj} (h : OwnA (upd (upd H rx (some (.cells cx ex))) rc (some oc)) e 1 (k + 1) (cs ++ [.oslice 1 rx 0 n lo]) v H')
    (hx : H rx = none) (hc : H rc = none) (hne : rc ≠ rx) (hcs : fzs rx cx cs = cs) (hn : cx.length = n) :
    ∃ H'', (∀ env, GhostS G ⟨env, H'⟩ ⟨fun i => Dl.fz rx cx (env i), H''⟩) ∧ OwnA H e 1 (k + 1) (cs ++ [.vslice cx n]) v H'' ∧ Dl.fz rx cx v = v := by
  rcases h with ⟨a, _⟩ | ⟨ro, a, b, rfl, rfl⟩
  · omega
  · rw [upd_eq_none] at a
    obtain ⟨a1, a2, a3⟩ := a
    rw [upd_eq_none] at a3
    obtain ⟨a4, a5, a6⟩ := a3
    have hfz : fzs rx cx (cs ++ [.oslice 1 rx 0 n lo]) = cs ++ [.vslice cx n] := by
      have happ : ∀ (l m : List DVal), fzs rx cx (l ++ m) = fzs rx cx l ++ fzs rx cx m := fun l m => by
        induction l with
        | nil => simp [fzs]
        | cons d l ih => simp [fzs, ih]
      rw [happ, hcs]
      simp only [fzs, Dl.fz, if_pos, List.drop_zero, Nat.mul_one]
      rw [List.take_of_length_le (by omega)]
    refine ⟨upd (upd (upd (upd (upd (upd H rx (some (.cells cx ex))) rc (some oc)) ro (some (.cells (cs ++ [.oslice 1 rx 0 n lo]) e))) rx none) ro (some (.cells (cs ++ [.vslice cx n]) e))) rc none, fun env => ?_, ?_, ?_⟩
    · refine GhostS.trans (GhostS.fz2 (r := rx) (ro := ro) (cs := cx) (cso := cs ++ [.oslice 1 rx 0 n lo]) (e := ex) (eo := e) (by simp [upd, a5, hne.symm]) (by simp [upd]) a4) ?_
      rw [hfz]
      exact GhostS.drop _ rc
    · refine .inr ⟨ro, a6, by simp at b ⊢; omega, rfl, ?_⟩
      funext i
      simp only [upd]
      by_cases e1 : i = rc
      · subst e1; simp [hc, a2]
      · by_cases e2 : i = ro
        · subst e2; simp [a1]
        · by_cases e3 : i = rx
          · subst e3; simp [e1, e2, hx]
          · simp [e1, e2, e3]
    · simp only [Dl.fz, if_neg a4]

theorem sub_none {H H' : DHeap} (h : ∀ r o, H' r = some o → H r = some o) {b : Nat} (hb : H b = none) : H' b = none := by
  cases e : H' b with
  | none => rfl
  | some o => rw [h b o e] at hb; cases hb
theorem lasts_sub {H H' : DHeap} (h : ∀ r o, H' r = some o → H r = some o) (w : World) : Lasts H w H' w :=
  ⟨fun b i x hb hc => ⟨sub_none h hb, hc⟩, Nat.le_refl _, fun _ _ => rfl⟩
theorem GhostE.sub {H H' : DHeap} (h : ∀ r o, H' r = some o → H r = some o) (v : DVal) : GhostE H v H' v := fun w hw =>
  ⟨fun r o ho => (hw r o (h r o ho)).lasts (lasts_sub h w), fun b hb e => hb (sub_none h e), fun x hx => Rel.lasts (lasts_sub h w) _ _ hx⟩
/-- Some blocks are let go. -/
theorem DFin.sub {R : DEnd → DHeap → Prop} {v : DVal} {H H' : DHeap} (h : ∀ r o, H' r = some o → H r = some o) (k : DFin R v H') : DFin R v H := .ghost (.sub h v) k
theorem GhostS.sub {G : Nat → DVal} {s : DS} {H' : DHeap} (h : ∀ r o, H' r = some o → s.heap r = some o) : GhostS G s ⟨s.env, H'⟩ := fun w hH hG =>
  ⟨fun r o ho => (hH r o (h r o ho)).lasts (lasts_sub h w), fun b hb e => hb (sub_none h e), hG.lasts (lasts_sub h w), fun i x hx => Rel.lasts (lasts_sub h w) _ _ hx⟩
theorem none_ne {α : Type} {H : Nat → Option α} {a b : Nat} {o : α} (ha : H a = none) (hb : H b = some o) : b ≠ a := fun e => by rw [e, ha] at hb; cases hb

theorem fzs_append (r : Nat) (cs : List DVal) (l m : List DVal) : fzs r cs (l ++ m) = fzs r cs l ++ fzs r cs m := by
  induction l with
  | nil => simp [fzs]
  | cons d l ih => simp [fzs, ih]
theorem DLes.append {a a' b b' : List DVal} (h : DLes a a') (k : DLes b b') : DLes (a ++ b) (a' ++ b') := fun w H x hx => by
  have hl := hx.length
  have e : x = x.take a.length ++ x.drop a.length := (List.take_append_drop _ _).symm
  have h1 := hx.take a.length
  have h2 := hx.drop a.length
  rw [List.take_left] at h1
  rw [List.drop_left] at h2
  rw [e]
  exact (h _ _ _ h1).append (k _ _ _ h2)
/-- Among arguments. -/
theorem OwnA.ghostA {H H0 : DHeap} {e : TypeId} {size n : Nat} {cs : List DVal} {v : DVal} (hv : OwnA H e size n cs v H0) {ds ds' : List DVal} (hd : ∀ r cs, fzs r cs ds = ds) (hd' : ∀ r cs, fzs r cs ds' = ds') : GhostE H0 (.tuple (ds ++ v :: ds')) H (.tuple (ds ++ .vslice cs n :: ds')) := by
  rcases hv with ⟨rfl, rfl, rfl, rfl⟩ | ⟨r, hr, hl, rfl, rfl⟩
  · exact fun w hw => ⟨hw, fun _ h => h, fun x hx => DLe.tuple (DLes.append (.refl _) (.cons .nil (.refl _))) _ _ _ hx⟩
  · have := GhostE.fz (v := .tuple (ds ++ .oslice size r 0 n n :: ds')) (upd_same H r (some (.cells cs e)))
    rw [upd_none_self hr] at this
    simp only [Dl.fz, fzs_append, fzs, if_pos, List.drop_zero, hd, hd'] at this
    rw [List.take_of_length_le (by omega)] at this
    exact this

theorem DCalls.leArgs {P : Program} {G : Nat → DVal} {f : FuncId} {args args' : List DVal} {H : DHeap} {R : DEnd → DHeap → Prop} (g : DLes args args') (h : DCalls P G f args' H R) : DCalls P G f args H R :=
  .pre (fun w hw => ⟨hw, fun _ h => h, fun x hx => DLe.tuple g _ _ _ hx⟩) h

theorem one_all {α : Type} (f : α → DVal) (h : ∀ x, (f x).one = true) (l : List α) : (l.map f).all (fun d => d.one) = true := by
  induction l with
  | nil => rfl
  | cons x l ih => simp [h, ih]
theorem ints_one (l : List Int) : (l.map dI).all (fun d => d.one) = true := one_all dI (fun _ => rfl) l
theorem intss_one (l : List (List Int)) : (l.map dIs).all (fun d => d.one) = true := one_all dIs (fun _ => rfl) l
theorem take_map_len {α : Type} (f : α → DVal) (l : List α) : (l.map f).take l.length = l.map f := by
  rw [List.take_of_length_le (by simp)]
theorem optAll_some {α : Type} (p : α → Bool) (x : α) : Option.all p (some x) = p x := rfl
attribute [go_sem] dAppendO_in dAppendO_out ints_one intss_one take_map_len optAll_some
end Go.Dl

-- THE DATA LEVEL: the lemmas that the long simp call (simp (disch := omega) only [go_sem, Nat.reduceEqDiff, Nat.reduceAdd, Nat.reduceMul, Nat.reduceSub, Nat.reduceLeDiff, ↓reduceIte, reduceCtorEq, Int.reduceAdd, Int.reduceSub, Int.reduceMul, Int.reduceNeg, Int.reduceToNat, List.reduceReplicate, String.reduceEq] in fill.py) takes besides the equations.
namespace Go.Dl
open Go
attribute [go_sem] Int.toNat_natCast Int.sub_zero Int.zero_add Int.add_zero Nat.add_sub_cancel wrap64_id List.length_cons List.length_nil List.all_cons List.all_nil Bool.and_true Bool.true_and Bool.or_false Bool.false_or
attribute [go_sem] List.take_succ_cons List.take_zero List.drop_succ_cons List.drop_zero decide_true decide_false Nat.mul_one Nat.one_mul Nat.zero_add Nat.add_zero Nat.mul_zero Nat.zero_mul Bool.not_true Bool.not_false
attribute [go_sem] Option.map_some Option.map_none Nat.le_refl Nat.zero_lt_succ ne_eq not_true_eq_false not_false_eq_true Option.isSome_some and_of dec_true dec_false true_imp_iff false_imp_iff beq_self_eq_true forall_const getElem_map List.length_map dIs dIss
end Go.Dl
