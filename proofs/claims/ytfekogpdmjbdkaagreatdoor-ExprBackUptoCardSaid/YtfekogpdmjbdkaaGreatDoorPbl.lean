/- The data level and the contracts of the functions that are reached (part 12). -/
import Derived.Deep.Slices
import Derived.DeepKeys4
import Derived.LaidLaws
import Derived.Stop.LaidErr
import Derived.Shelf.Vars
import Derived.Test.YtfekogpdmjbdkaaGreatDoorRows
import Derived.Test.YtfekogpdmjbdkaaGreatDoorPbk
set_option linter.unusedSimpArgs false
set_option linter.unusedVariables false
set_option linter.unusedSectionVars false
-- Chapter 3: the reading of expressions: data that hold data of their own kind.
namespace Go.Dl
open Go Go.RowKit Go.Deep Go.Proofs Go.Proofs.YtfekogpdmjbdkaaGreatDoor
set_option maxRecDepth 100000
section
variable {P : Program} {H : Type} {w : World}
def ReadsN (N : Nat) (P : Program) (H : Type) (w : World) (t : TypeId) (α : Type) (f : α → List DVal) (g : α → DataW H → Prop) : Prop :=
 ∀ (enc : TypeId × Value → H) base sp held fuel cs d ps, DataW.trod enc P w base sp held fuel t cs = some (d, ps) → Rows.uptoBulk d ≤ N → ∃ x, g x d ∧ RelL w (fun _ => none) (f x) cs
def ReadsFsN (N : Nat) (P : Program) (H : Type) (w : World) (fs : List Field) (off total : Nat) (α : Type) (f : α → List DVal) (g : α → List (DataW H) → Prop) : Prop :=
 ∀ (enc : TypeId × Value → H) base sp held fuel (cs : List Value) xs, cs.length = total → (fs.mapM fun fl => DataW.trod enc P w base sp held fuel fl.type ((cs.drop fl.offset).take (P.cellsOf fl.type))) = some xs → (∀ x ∈ xs, Rows.uptoBulk x.1 ≤ N) → ∃ x, g x (xs.map (·.1)) ∧ RelL w (fun _ => none) (f x) (cs.drop off)
theorem Reads.n {t : TypeId} {α : Type} {f : α → List DVal} {g : α → DataW H → Prop} (h : Reads P H w t α f g) (N : Nat) : ReadsN N P H w t α f g := fun enc base sp held fuel cs d ps hh _ => h enc base sp held fuel cs d ps hh
theorem reads_all {t : TypeId} {α : Type} {f : α → List DVal} {g : α → DataW H → Prop} (h : ∀ N, ReadsN N P H w t α f g) : Reads P H w t α f g := fun enc base sp held fuel cs d ps hh => h _ enc base sp held fuel cs d ps hh (Nat.le_refl _)
theorem ReadsN.less {N M : Nat} {t : TypeId} {α : Type} {f : α → List DVal} {g : α → DataW H → Prop} (h : ReadsN N P H w t α f g) (hm : M ≤ N) : ReadsN M P H w t α f g := fun enc base sp held fuel cs d ps hh hb => h enc base sp held fuel cs d ps hh (by omega)
theorem bulk_mem {l : List (DataW H)} {d : DataW H} (h : d ∈ l) : Rows.uptoBulk d ≤ Rows.uptoBulkAll l := by
 induction l with
 | nil => cases h
 | cons x l ih =>
  rw [Rows.uptoBulkAll]
  rcases List.mem_cons.1 h with rfl | h
  ·omega
  ·have := ih h; omega
theorem readsN_slice {N : Nat} {t e : TypeId} {α : Type} {f : α → List DVal} {g : α → DataW H → Prop} (ht : P.underlying t = some (.slice e)) (he : ReadsN N P H w e α f g) :
  ReadsN N P H w t (List α) (fun xs => [.vslice (xs.flatMap f) xs.length]) (SlG g) := by
 intro enc base sp held fuel cs d ps h hbulk
 rcases open_slice ht h with ⟨rfl, hx⟩ | ⟨a, len, cap, m, n, D, Pl, rfl, hb, hl, hm, hmm, hx, hall⟩
 ·cases hx
  exact ⟨[], .inl ⟨rfl, rfl⟩, by simp [RelL, Rel]⟩
 ·have hlm : len ≤ m := by rw [hmm]; split <;> omega
  simp only [Prod.mk.injEq] at hx
  obtain ⟨rfl, rfl⟩ := hx
  have hbk : ∀ k, k < len → Rows.uptoBulk (D k) ≤ N := fun k hk => by
   have := bulk_mem (l := (List.range len).map D) (List.mem_map.2 ⟨k, List.mem_range.2 hk, rfl⟩)
   rw [Rows.uptoBulk] at hbulk; omega
  have key : ∀ k, k ≤ len → ∃ (xs : List α) (ys : List Value), xs.length = k ∧ AllG g xs ((List.range k).map D) ∧ ys.length = k * P.cellsOf e ∧ Holds w a.block a.off ys ∧ RelL w (fun _ => none) (xs.flatMap f) ys := by
   intro k
   induction k with
   | zero => intro _; exact ⟨[], [], rfl, trivial, by simp, fun i x hx => by simp at hx, by simp [RelL]⟩
   | succ k ih =>
    intro hk
    obtain ⟨xs, ys, h1, h2, h3, h4, h5⟩ := ih (by omega)
    obtain ⟨cs', g1, g2⟩ := hall k (by omega)
    obtain ⟨x, hg, hr⟩ := he _ _ _ _ _ _ _ _ g2 (hbk k (by omega))
    obtain ⟨c1, c2⟩ := cells_holds g1
    refine ⟨xs ++ [x], ys ++ cs', by simp [h1], ?_, by simp only [List.length_append, h3, c1, Nat.succ_mul], h4.append ?_, ?_⟩
    ·rw [List.range_succ, List.map_append]
     exact h2.append ⟨hg, trivial⟩
    ·rw [h3]
     have ha : (a.add (k * P.cellsOf e)).block = a.block ∧ (a.add (k * P.cellsOf e)).off = a.off + k * P.cellsOf e := by
      unfold Addr.add; split
      ·rename_i h0; rw [h0]; exact ⟨rfl, rfl⟩
      ·exact ⟨rfl, rfl⟩
     rw [ha.1, ha.2] at c2
     exact c2
    ·rw [List.flatMap_append]
     simpa using h5.append hr
  obtain ⟨xs, ys, h1, h2, h3, h4, h5⟩ := key len (Nat.le_refl _)
  refine ⟨xs, .inr ⟨_, _, rfl, by omega, h2⟩, ?_⟩
  have hrel : Rel w (fun _ => none) (.vslice (xs.flatMap f) xs.length) (.slice (some a) len cap) := by
   simp only [Rel]
   refine ⟨some a, cap, by rw [h1], by omega, ?_⟩
   cases hys : ys with
   | nil => subst hys; left; exact List.eq_nil_of_length_eq_zero (by rw [h5.length]; rfl)
   | cons y yr =>
    right
    have h6 := h4 0 y (by rw [hys]; rfl)
    have hpos : 0 < len ∧ 0 < P.cellsOf e := by
     rw [hys] at h3
     simp only [List.length_cons] at h3
     constructor
     ·rcases Nat.eq_zero_or_pos len with h0 | h0
      ·subst h0; simp at h3
      ·exact h0
     ·rcases Nat.eq_zero_or_pos (P.cellsOf e) with h0 | h0
      ·rw [h0] at h3; simp at h3
      ·exact h0
    have hsp : a.spot = none := by
     obtain ⟨cs', g1, g2⟩ := hall 0 (by omega)
     unfold World.cells? at g1
     split at g1
     ·obtain ⟨_, m2⟩ := mapM_get g1
      obtain ⟨z, _, hz⟩ := m2 0 0 (by simp [hpos.2])
      have : (a.add (0 * P.cellsOf e)).add 0 = a := by simp [Addr.add]
      rw [this] at hz
      exact cell_spot hz
     ·cases g1
    refine ⟨a.block, a.off, y :: yr, by cases a; simp at hsp ⊢; exact hsp, .inr ⟨rfl, hys ▸ h4⟩, hys ▸ h5⟩
  simp only [RelL]
  exact ⟨_, _, rfl, hrel, rfl⟩
theorem readsFsN_nil (N n : Nat) : ReadsFsN N P H w [] n n Unit (fun _ => []) (fun _ ds => ds = []) := fun enc base sp held fuel cs xs hl h _ => readsFs_nil n enc base sp held fuel cs xs hl h
theorem readsFsN_cons {N : Nat} {fl : Field} {fs : List Field} {off total n : Nat} {α β : Type} {f : α → List DVal} {g : α → DataW H → Prop} {f' : β → List DVal} {g' : β → List (DataW H) → Prop} (h1 : ReadsN N P H w fl.type α f g) (ho : fl.offset = off) (hn : P.cellsOf fl.type = n)
  (h2 : ReadsFsN N P H w fs (off + n) total β f' g') : ReadsFsN N P H w (fl :: fs) off total (α × β) (fun x => f x.1 ++ f' x.2) (fun x ds => ∃ d ds', ds = d :: ds' ∧ g x.1 d ∧ g' x.2 ds') := by
 intro enc base sp held fuel cs xs hl h hb
 rw [List.mapM_cons] at h
 simp only [Option.bind_eq_bind, Option.bind_eq_some_iff, Option.pure_def, Option.some.injEq] at h
 obtain ⟨y, hy, ys, hys, rfl⟩ := h
 obtain ⟨x1, g1, r1⟩ := h1 enc base sp held fuel _ y.1 y.2 hy (hb y (by simp))
 obtain ⟨x2, g2, r2⟩ := h2 enc base sp held fuel cs ys hl hys fun x hx => hb x (by simp [hx])
 refine ⟨(x1, x2), ⟨y.1, ys.map (·.1), by simp, g1, g2⟩, ?_⟩
 rw [ho, hn] at r1
 have : cs.drop off = (cs.drop off).take n ++ cs.drop (off + n) := by
  rw [← List.drop_drop, List.take_append_drop]
 rw [this]
 exact r1.append r2
theorem readsN_struct {N : Nat} {t : TypeId} {fs : List Field} {α : Type} {f : α → List DVal} {g : α → List (DataW H) → Prop} (ht : P.underlying t = some (.struct fs.toArray)) (h : ReadsFsN N P H w fs 0 (P.cellsOf t) α f g) :
  ReadsN (N + 1) P H w t α f (fun x d => ∃ ds, d = .agg ds ∧ g x ds) := by
 intro enc base sp held fuel cs d ps hh hbulk
 cases fuel with
 | zero => simp [DataW.trod] at hh
 | succ fuel =>
  unfold DataW.trod at hh
  rw [ht] at hh
  dsimp only at hh
  split at hh
  ·rename_i hl
   simp only [Option.map_eq_some_iff, Prod.mk.injEq] at hh
   obtain ⟨xs, hx, rfl, rfl⟩ := hh
   obtain ⟨x, g1, r1⟩ := h enc base sp held fuel cs xs hl hx fun y hy => by
    have := bulk_mem (l := xs.map (·.1)) (List.mem_map.2 ⟨y, hy, rfl⟩)
    rw [Rows.uptoBulk] at hbulk; omega
   exact ⟨x, ⟨_, rfl, g1⟩, by simpa using r1⟩
  ·cases hh
theorem ReadsN.map {N : Nat} {t : TypeId} {α β : Type} {f : α → List DVal} {g : α → DataW H → Prop} (h : ReadsN N P H w t α f g) {f' : β → List DVal} {g' : β → DataW H → Prop} (c : ∀ x d, g x d → ∃ y, f' y = f x ∧ g' y d) : ReadsN N P H w t β f' g' := by
 intro enc base sp held fuel cs d ps hh hb
 obtain ⟨x, g1, r1⟩ := h enc base sp held fuel cs d ps hh hb
 obtain ⟨y, e, g2⟩ := c x d g1
 exact ⟨y, g2, by rw [e]; exact r1⟩
end
section
variable {H : Type} {w : World}
def GE (e : Ex) (d : DataW H) : Prop := bigE e ≤ Rows.uptoBulk d ∧ okE e
def GA (a : As) (d : DataW H) : Prop := bigA a ≤ Rows.uptoBulk d ∧ okA a
def GC (c : Ch) (d : DataW H) : Prop := bigC c ≤ Rows.uptoBulk d ∧ okC c
theorem allGE : ∀ {l : List Ex} {ds : List (DataW H)}, AllG GE l ds → bigL l ≤ Rows.uptoBulkAll ds ∧ okL l
 | [], [], _ => ⟨Nat.le_refl _, trivial⟩
 | [], _ :: _, h => h.elim
 | _ :: _, [], h => h.elim
 | x :: l, d :: ds, h => by
  obtain ⟨a, b⟩ := allGE h.2
  have := h.1.1
  rw [bigL, Rows.uptoBulkAll, okL]
  exact ⟨by omega, h.1.2, b⟩
theorem allGA : ∀ {l : List As} {ds : List (DataW H)}, AllG GA l ds → bigAs l ≤ Rows.uptoBulkAll ds ∧ okAs l
 | [], [], _ => ⟨Nat.le_refl _, trivial⟩
 | [], _ :: _, h => h.elim
 | _ :: _, [], h => h.elim
 | x :: l, d :: ds, h => by
  obtain ⟨a, b⟩ := allGA h.2
  have := h.1.1
  rw [bigAs, Rows.uptoBulkAll, okAs]
  exact ⟨by omega, h.1.2, b⟩
theorem allGC : ∀ {l : List Ch} {ds : List (DataW H)}, AllG GC l ds → bigCs l ≤ Rows.uptoBulkAll ds ∧ okCs l
 | [], [], _ => ⟨Nat.le_refl _, trivial⟩
 | [], _ :: _, h => h.elim
 | _ :: _, [], h => h.elim
 | x :: l, d :: ds, h => by
  obtain ⟨a, b⟩ := allGC h.2
  have := h.1.1
  rw [bigCs, Rows.uptoBulkAll, okCs]
  exact ⟨by omega, h.1.2, b⟩
theorem slGE {l : List Ex} {d : DataW H} (h : SlG GE l d) : bigL l + 1 ≤ Rows.uptoBulk d ∧ okL l := by
 rcases h with ⟨rfl, rfl⟩ | ⟨es, sp, rfl, _, h⟩
 ·exact ⟨by simp [bigL, Rows.uptoBulk], trivial⟩
 ·have := allGE h
  exact ⟨by rw [Rows.uptoBulk]; omega, this.2⟩
theorem slGA {l : List As} {d : DataW H} (h : SlG GA l d) : bigAs l + 1 ≤ Rows.uptoBulk d ∧ okAs l := by
 rcases h with ⟨rfl, rfl⟩ | ⟨es, sp, rfl, _, h⟩
 ·exact ⟨by simp [bigAs, Rows.uptoBulk], trivial⟩
 ·have := allGA h
  exact ⟨by rw [Rows.uptoBulk]; omega, this.2⟩
theorem slGC {l : List Ch} {d : DataW H} (h : SlG GC l d) : bigCs l + 1 ≤ Rows.uptoBulk d ∧ okCs l := by
 rcases h with ⟨rfl, rfl⟩ | ⟨es, sp, rfl, _, h⟩
 ·exact ⟨by simp [bigCs, Rows.uptoBulk], trivial⟩
 ·have := allGC h
  exact ⟨by rw [Rows.uptoBulk]; omega, this.2⟩
theorem readsN_ch {N : Nat} (he : ReadsN N Tryz.prog H w 27 Ex dEx GE) : ReadsN N Tryz.prog H w 71 Ch dCh GC := by
 have h := readsN_struct (N := N) (H := H) (w := w) Tryz.underlying71 (readsFsN_cons (n := 1) ((reads_int Tryz.underlying69).n N) rfl (by kernel_rfl) (readsFsN_cons (n := 1) (readsN_slice Tryz.underlying24 he) rfl (by kernel_rfl) (by
   rw [show Tryz.prog.cellsOf 71 = 0 + 1 + 1 by kernel_rfl]
   exact readsFsN_nil _ _)))
 refine (h.less (Nat.le_succ N)).map fun x d hg => ⟨.mk x.1 x.2.1, ?_, ?_⟩
 ·rw [dCh_eq]; rfl
 ·obtain ⟨ds, rfl, d0, ds0, rfl, g0, d1, ds1, rfl, g1, _⟩ := hg
  have := slGE g1
  exact ⟨by rw [bigC, Rows.uptoBulk, Rows.uptoBulkAll, Rows.uptoBulkAll]; omega, by rw [okC]; exact this.2⟩
theorem readsN_as {N : Nat} (he : ReadsN N Tryz.prog H w 27 Ex dEx GE) : ReadsN N Tryz.prog H w 47 As dAs GA := by
 have h := readsN_struct (N := N) (H := H) (w := w) Tryz.underlying47 (readsFsN_cons (n := 1) (readsN_slice Tryz.underlying40 (readsN_ch he)) rfl (by kernel_rfl) (readsFsN_cons (n := 9) he rfl (by kernel_rfl) (by
   rw [show Tryz.prog.cellsOf 47 = 0 + 1 + 9 by kernel_rfl]
   exact readsFsN_nil _ _)))
 refine (h.less (Nat.le_succ N)).map fun x d hg => ⟨.mk x.1 x.2.1, ?_, ?_⟩
 ·rw [dAs_mk1]; simp
 ·obtain ⟨ds, rfl, d0, ds0, rfl, g0, d1, ds1, rfl, g1, _⟩ := hg
  have := slGC g0
  have := g1.1
  exact ⟨by rw [bigA, Rows.uptoBulk, Rows.uptoBulkAll, Rows.uptoBulkAll]; omega, by rw [okA]; exact ⟨(slGC g0).2, g1.2⟩⟩
theorem readsN_ex : ∀ N, ReadsN N Tryz.prog H w 27 Ex dEx GE
 | 0 => fun enc base sp held fuel cs d ps _ hb => by have := bulk_one d; omega
 | N + 1 => by
  have he := readsN_ex N
  have h := readsN_struct (N := N) (H := H) (w := w) Tryz.underlying27 (readsFsN_cons (n := 1) ((reads_int Tryz.underlying22).n N) rfl (by kernel_rfl) (readsFsN_cons (n := 1) ((reads_int Tryz.underlying23).n N) rfl (by kernel_rfl)
   (readsFsN_cons (n := 1) ((reads_int Tryz.underlying2).n N) rfl (by kernel_rfl) (readsFsN_cons (n := 1) ((reads_string Tryz.underlying9).n N) rfl (by kernel_rfl)
   (readsFsN_cons (n := 1) (readsN_slice Tryz.underlying24 he) rfl (by kernel_rfl) (readsFsN_cons (n := 1) (readsN_slice Tryz.underlying25 (readsN_as he)) rfl (by kernel_rfl)
   (readsFsN_cons (n := 1) ((reads_int Tryz.underlying3).n N) rfl (by kernel_rfl) (readsFsN_cons (n := 1) ((reads_int Tryz.underlying3).n N) rfl (by kernel_rfl) (readsFsN_cons (n := 1) ((reads_int Tryz.underlying3).n N) rfl (by kernel_rfl) (by
   rw [show Tryz.prog.cellsOf 27 = 0 + 1 + 1 + 1 + 1 + 1 + 1 + 1 + 1 + 1 by kernel_rfl]
   exact readsFsN_nil _ _))))))))))
  refine h.map fun x d hg => ⟨.mk x.1 x.2.1 x.2.2.1 x.2.2.2.1 x.2.2.2.2.1 x.2.2.2.2.2.1 x.2.2.2.2.2.2.1 x.2.2.2.2.2.2.2.1 x.2.2.2.2.2.2.2.2.1, ?_, ?_⟩
  ·rw [dEx_mk]; rfl
  ·obtain ⟨ds, rfl, d0, ds0, rfl, g0, d1, ds1, rfl, g1, d2, ds2, rfl, g2, d3, ds3, rfl, g3, d4, ds4, rfl, g4, d5, ds5, rfl, g5, _⟩ := hg
   have h4 := slGE g4
   have h5 := slGA g5
   have h3 := g3.1
   unfold maxLen at h3
   exact ⟨by rw [bigE, Rows.uptoBulk]; simp only [Rows.uptoBulkAll]; omega, by rw [okE]; exact ⟨h3, h4.2, h5.2⟩⟩
theorem reads_ex : Reads Tryz.prog H w 27 Ex dEx GE := reads_all readsN_ex
end
end Go.Dl

-- THE READING, PART G: the package's variables that a row lists ('laid'), as the data level sees them.
namespace Go.Dl
open Go Go.RowKit
def litsB : DataW Unit → Bool
 | .lit (.bool _) => true
 | .lit (.int _ _) => true
 | .lit (.string _) => true
 | .agg ds => litsBs ds
 | _ => false
where litsBs : List (DataW Unit) → Bool
 | [] => true
 | d :: ds => litsB d && litsBs ds
def litCells : DataW Unit → List Value
 | .lit (.bool b) => [.bool b]
 | .lit (.int k n) => [.int k n]
 | .lit (.string s) => [.string ⟨⟨s⟩⟩]
 | .agg ds => litCellss ds
 | _ => []
where litCellss : List (DataW Unit) → List Value
 | [] => []
 | d :: ds => litCells d ++ litCellss ds
theorem litsBs_iff {ds : List (DataW Unit)} : litsB.litsBs ds = true ↔ ∀ d ∈ ds, litsB d = true := by
 induction ds with
 | nil => simp [litsB.litsBs]
 | cons d ds ih => simp [litsB.litsBs, ih]
theorem litCellss_eq (ds : List (DataW Unit)) : litCells.litCellss ds = ds.flatMap litCells := by
 induction ds with
 | nil => rfl
 | cons d ds ih => simp [litCells.litCellss, ih]
theorem pieces {α : Type} (cs : List α) (off size : Nat → Nat) : ∀ (n : Nat), (∀ j, j < n → off (j + 1) = off j + size j) → off 0 = 0 → off n ≤ cs.length → (List.range n).flatMap (fun j => (cs.drop (off j)).take (size j)) = cs.take (off n)
 | 0, _, h0, _ => by simp [h0]
 | n + 1, h, h0, hn => by
  have hs := h n (by omega)
  rw [List.range_succ, List.flatMap_append, pieces cs off size n (fun j hj => h j (by omega)) h0 (by omega), hs]
  simp only [List.flatMap_cons, List.flatMap_nil, List.append_nil]
  rw [List.take_add]
theorem flat_range {α β : Type} (xs : List α) (g : α → List β) (f : Nat → List β) (n : Nat) (hn : xs.length = n) (h : ∀ (j : Nat) (x : α), xs[j]? = some x → f j = g x) : (List.range n).flatMap f = xs.flatMap g := by
 rw [List.flatMap_def, List.flatMap_def]
 congr 1
 apply List.ext_getElem?
 intro j
 simp only [List.getElem?_map]
 by_cases hj : j < n
 ·rw [List.getElem?_eq_getElem (by omega : j < xs.length), List.getElem?_range hj]
  simp only [Option.map_some]
  rw [h j xs[j] (List.getElem?_eq_getElem (by omega))]
 ·rw [List.getElem?_eq_none (by omega : xs.length ≤ j), List.getElem?_eq_none (by simp; omega)]; rfl
section
variable {P : Program} {w : World}
theorem trod_lits (hl : laidOutB P = true) {base : Nat} {sp : Nat → Bool} : ∀ (fuel : Nat) (t : TypeId) (cs : List Value) (d : DataW Unit) (ps : List MemPlace), isVar P t = true → litsB d = true →
  DataW.trod (fun _ => ()) P w base sp false fuel t cs = some (d, ps) → cs = litCells d
 | 0, _, _, _, _, _, _, h => by simp [DataW.trod] at h
 | fuel + 1, t, cs, d, ps, hv, hd, h => by
  have ih := @trod_lits hl base sp fuel
  have hlt : t < P.types.size := by simp only [isVar, Bool.and_eq_true, decide_eq_true_eq] at hv; exact hv.1
  have hrow := rowFine_of_laidOut hl hlt
  simp only [rowFine, hv, Bool.not_true, Bool.false_or] at hrow
  unfold DataW.trod at h
  split at h <;> (try (simp at h; done))
  ·simp only [Option.some.injEq, Prod.mk.injEq] at h; obtain ⟨rfl, rfl⟩ := h; rfl
  ·split at h
   ·rename_i hk
    obtain ⟨rfl, _⟩ := hk
    simp only [Option.some.injEq, Prod.mk.injEq] at h; obtain ⟨rfl, rfl⟩ := h; rfl
   ·cases h
  ·split at h
   ·simp only [Option.some.injEq, Prod.mk.injEq] at h; obtain ⟨rfl, rfl⟩ := h; cases hd
   ·cases h
  ·split at h
   ·simp only [Option.some.injEq, Prod.mk.injEq] at h; obtain ⟨rfl, rfl⟩ := h; simp [litCells]
   ·cases h
  ·simp only [Option.some.injEq, Prod.mk.injEq] at h; obtain ⟨rfl, rfl⟩ := h; cases hd
  ·simp only [Option.map_eq_some_iff, Prod.mk.injEq] at h; obtain ⟨_, _, rfl, _⟩ := h; cases hd
  ·simp only [Option.some.injEq, Prod.mk.injEq] at h; obtain ⟨rfl, rfl⟩ := h; cases hd
  ·dsimp only at h
   split at h
   ·simp only [Option.bind_eq_some_iff, Option.map_eq_some_iff, Prod.mk.injEq] at h
    obtain ⟨_, _, _, _, rfl, _⟩ := h; cases hd
   ·cases h
  ·rename_i cs _ _ fs hu
   rw [hu] at hrow
   simp only [Bool.and_eq_true, beq_iff_eq, List.all_eq_true] at hrow
   obtain ⟨⟨hf, hsum⟩, hoff⟩ := hrow
   split at h
   ·rename_i hcl
    simp only [Option.map_eq_some_iff, Prod.mk.injEq] at h
    obtain ⟨xs, hx, rfl, rfl⟩ := h
    obtain ⟨hxl, hxg⟩ := mapM_get hx
    simp only [litsB, litsBs_iff] at hd
    have key : ∀ (j : Nat) (f : Field) (x : DataW Unit × List MemPlace), fs.toList[j]? = some f → xs[j]? = some x → (cs.drop f.offset).take (P.cellsOf f.type) = litCells x.1 := by
     intro j f x hjf hjx
     obtain ⟨y, hy, hfy⟩ := hxg j f hjf
     rw [hjx] at hy; cases hy
     exact ih _ _ x.1 x.2 (hf f (List.mem_of_getElem? hjf)) (hd _ (List.mem_map.2 ⟨x, List.mem_of_getElem? hjx, rfl⟩)) hfy
    have hp := pieces cs (fun j => ((fs.toList.take j).map fun f => P.cellsOf f.type).sum) (fun j => (fs.toList[j]?).elim 0 fun f => P.cellsOf f.type) fs.toList.length (fun j hj => by
     rw [List.take_succ_eq_append_getElem hj]; simp [List.getElem?_eq_getElem hj]) (by simp) (by rw [List.take_length, hcl, hsum]; omega)
    simp only [List.take_length, ← hsum, ← hcl] at hp
    rw [← hp]
    simp only [litCells, litCellss_eq, List.flatMap_map]
    refine flat_range xs _ _ _ hxl fun j x hjx => ?_
    have hjx' : j < xs.length := (List.getElem?_eq_some_iff.1 hjx).1
    have hj' : j < fs.toList.length := by omega
    have h1 := hoff j (List.mem_range.2 hj')
    rw [List.getElem?_eq_getElem hj'] at h1
    simp only [beq_iff_eq] at h1
    have h2 := key j fs.toList[j] x (List.getElem?_eq_getElem hj') hjx
    rw [h1] at h2
    simp only [List.getElem?_eq_getElem hj', Option.elim_some]
    exact h2
   ·cases h
  ·rename_i cs _ _ n e hu
   rw [hu] at hrow
   simp only [Bool.and_eq_true, beq_iff_eq] at hrow
   obtain ⟨hf, hsum⟩ := hrow
   split at h
   ·rename_i hcl
    simp only [Option.map_eq_some_iff, Prod.mk.injEq] at h
    obtain ⟨xs, hx, rfl, rfl⟩ := h
    obtain ⟨hxl, hxg⟩ := mapM_get hx
    rw [List.length_range] at hxl
    simp only [litsB, litsBs_iff] at hd
    have hp := pieces cs (fun j => j * P.cellsOf e) (fun _ => P.cellsOf e) n (fun j _ => Nat.succ_mul j _) (by simp) (by rw [hcl, hsum]; exact Nat.le_refl _)
    rw [List.take_of_length_le (by rw [hcl, hsum]; exact Nat.le_refl _)] at hp
    rw [← hp]
    simp only [litCells, litCellss_eq, List.flatMap_map]
    refine flat_range xs _ _ _ hxl fun j x hjx => ?_
    have hjx' : j < xs.length := (List.getElem?_eq_some_iff.1 hjx).1
    obtain ⟨y, hy, hfy⟩ := hxg j j (by rw [List.getElem?_range (by omega)])
    rw [hjx] at hy; cases hy
    exact ih _ _ _ _ hf (hd _ (List.mem_map.2 ⟨x, List.mem_of_getElem? hjx, rfl⟩)) hfy
   ·cases h
  ·simp only [Option.some.injEq, Prod.mk.injEq] at h; obtain ⟨rfl, rfl⟩ := h; cases hd
  ·split at h
   ·rename_i e; cases e
   ·simp only [Option.map_eq_some_iff, Prod.mk.injEq] at h; obtain ⟨_, _, rfl, _⟩ := h; cases hd
   ·cases h
  ·simp only [Option.some.injEq, Prod.mk.injEq] at h; obtain ⟨rfl, rfl⟩ := h; cases hd
  ·split at h
   ·dsimp only at h
    split at h
    ·simp only [Option.bind_eq_some_iff] at h
     obtain ⟨_, _, h⟩ := h
     split at h
     ·simp only [Option.some.injEq, Prod.mk.injEq] at h; obtain ⟨rfl, rfl⟩ := h; cases hd
     ·cases h
    ·cases h
   ·cases h
  ·simp only [Option.some.injEq, Prod.mk.injEq] at h; obtain ⟨rfl, rfl⟩ := h; cases hd
  ·simp only [Option.some.injEq, Prod.mk.injEq] at h; obtain ⟨rfl, rfl⟩ := h; cases hd
  ·simp only [Option.some.injEq, Prod.mk.injEq] at h; obtain ⟨rfl, rfl⟩ := h; cases hd
theorem laid_at : ∀ {laid : List (String × DataW Unit)} {n : String} {d : DataW Unit}, laidMet P laid w → (n, d) ∈ laid →
  ∃ g t cs fuel p, P.globalNamed n = some g ∧ (P.globals[g]?).map (·.type) = some t ∧ w.var? P n = some cs ∧ DataW.trod (fun _ => ()) P w 0 (fun _ => true) false fuel t cs.toList = some (d, p) ∧
   ∀ u v, w.cell? ⟨g, 0, none⟩ = some (.iface u v) → 0 < cs.size → Value.okWide P w .any 0 u v
 | [], _, _, _, hm => by cases hm
 | x :: laid, n, d, h, hm => by
  rcases List.mem_cons.1 hm with rfl | hm
  ·obtain ⟨ps, ⟨g, t, cs, fuel, p, q, h1, h2, h3, h4, h5, h6⟩, _, h8⟩ := h
   refine ⟨g, t, cs, fuel, p, h1, h2, h3, h4, fun u v hc hz => (h8 g 0 ?_).2 u v hc⟩
   rw [h6]
   refine List.mem_append_left _ (List.mem_append_left _ ?_)
   unfold MemPlace.row
   exact List.mem_map.2 ⟨0, List.mem_range.2 hz, by simp⟩
  ·exact laid_at h.tail hm
def LitV (v : Value) : Prop := (∃ b, v = .bool b) ∨ (∃ k n, v = .int k n) ∨ ∃ s : List UInt8, v = .string ⟨⟨s⟩⟩
mutual
theorem litv_all : ∀ (d : DataW Unit), litsB d = true → ∀ v ∈ litCells d, LitV v
 | .lit (.bool b), _, v, hv => by simp [litCells] at hv; exact .inl ⟨b, hv⟩
 | .lit (.int k n), _, v, hv => by simp [litCells] at hv; exact .inr (.inl ⟨k, n, hv⟩)
 | .lit (.string s), _, v, hv => by simp [litCells] at hv; exact .inr (.inr ⟨s, hv⟩)
 | .agg ds, h, v, hv => litv_alls ds (by simpa [litsB] using h) v (by simpa [litCells] using hv)
 | .lit (.float _ _), h, _, _ => by cases h
 | .nil, h, _, _ => by cases h
 | .ptr _, h, _, _ => by cases h
 | .slice _ _, h, _, _ => by cases h
 | .iface _ _, h, _, _ => by cases h
 | .map _, h, _, _ => by cases h
 | .held _, h, _, _ => by cases h
theorem litv_alls : ∀ (ds : List (DataW Unit)), litsB.litsBs ds = true → ∀ v ∈ litCells.litCellss ds, LitV v
 | [], _, v, hv => by simp [litCells.litCellss] at hv
 | d :: ds, h, v, hv => by
  simp only [litsB.litsBs, Bool.and_eq_true] at h
  simp only [litCells.litCellss, List.mem_append] at hv
  rcases hv with hv | hv
  ·exact litv_all d h.1 v hv
  ·exact litv_alls ds h.2 v hv
end
theorem litv_rel {Hp : DHeap} : ∀ (d : DataW Unit), litsB d = true → RelL w Hp (ofVals (litCells d)) (litCells d) := by
 have all : ∀ (vs : List Value), (∀ v ∈ vs, (∃ b, v = .bool b) ∨ (∃ k n, v = .int k n) ∨ ∃ s : List UInt8, v = .string ⟨⟨s⟩⟩) → RelL w Hp (ofVals vs) vs := by
  intro vs
  induction vs with
  | nil => intro _; simp [ofVals, RelL]
  | cons v vs ih =>
   intro h
   simp only [ofVals, RelL]
   refine ⟨v, vs, rfl, ?_, ih fun x hx => h x (by simp [hx])⟩
   rcases h v (by simp) with ⟨b, rfl⟩ | ⟨k, n, rfl⟩ | ⟨s, rfl⟩ <;> simp [ofVal, Rel]
 exact fun d h => all _ (litv_all d h)
theorem laid_rel {laid : List (String × DataW Unit)} {n : String} {d : DataW Unit} {g : Nat} (hl : laidOutB P = true) (h : laidMet P laid w) (hm : (n, d) ∈ laid) (hd : litsB d = true) (hg : P.globalNamed n = some g)
  (hgt : isVar P (((P.globals[g]?).map (·.type)).getD 0) = true) : Rel w (fun _ => none) (.vptr (ofVals (litCells d)) 0) (.pointer (some ⟨g, 0, none⟩)) := by
 obtain ⟨g', t, cs, fuel, p, h1, h2, h3, h4, _⟩ := laid_at h hm
 rw [hg] at h1; cases h1
 rw [h2] at hgt
 have hc := trod_lits hl fuel t cs.toList d p hgt hd h4
 simp only [Rel]
 refine ⟨g, 0, cs.toList, rfl, ?_, by rw [hc]; exact litv_rel d hd⟩
 refine .inr ⟨rfl, fun i x hx => ?_⟩
 have := World.var?_cell hg h3 i
 rw [Nat.zero_add, this]
 simpa using hx
end
end Go.Dl

-- That no place of laid variables stands twice, found in one pass.
namespace Go.Dl
open Go Go.RowKit
def placeBits : List MemPlace → Nat → Bool
 | [], _ => true
 | .cell b off :: l, m => decide (off < 1024) && !(m.testBit (b * 1024 + off)) && placeBits l (m ||| 1 <<< (b * 1024 + off))
 | .map _ :: _, _ => false
theorem bit_lor {m k n : Nat} (h : (m ||| 1 <<< k).testBit n = false) : m.testBit n = false ∧ n ≠ k := by
 rw [Nat.testBit_or, Bool.or_eq_false_iff] at h
 refine ⟨h.1, fun e => ?_⟩
 subst e
 have := h.2
 rw [Nat.testBit_shiftLeft] at this
 simp at this
theorem placeBits_ok : ∀ (l : List MemPlace) (m : Nat), placeBits l m = true → l.Nodup ∧ ∀ p ∈ l, ∃ b off, p = .cell b off ∧ off < 1024 ∧ m.testBit (b * 1024 + off) = false
 | [], _, _ => ⟨List.nodup_nil, fun p hp => by cases hp⟩
 | .map _ :: _, _, h => by simp [placeBits] at h
 | .cell b off :: l, m, h => by
  simp only [placeBits, Bool.and_eq_true, decide_eq_true_eq, Bool.not_eq_true'] at h
  obtain ⟨⟨h1, h2⟩, h3⟩ := h
  obtain ⟨k1, k2⟩ := placeBits_ok l _ h3
  refine ⟨List.nodup_cons.2 ⟨fun hm => ?_, k1⟩, fun p hp => ?_⟩
  ·obtain ⟨b', off', e, _, h5⟩ := k2 _ hm
   cases e
   exact (bit_lor h5).2 rfl
  ·rcases List.mem_cons.1 hp with rfl | hp
   ·exact ⟨b, off, rfl, h1, h2⟩
   ·obtain ⟨b', off', e, h4, h5⟩ := k2 _ hp
    exact ⟨b', off', e, h4, (bit_lor h5).1⟩
theorem laidMet_fast {P : Program} {w : World} {l : List (String × DataW Unit)} (fuel : Nat) (h : (DataW.laidRun P w fuel (l.map (·.1))).map (·.1) = some l)
  (hr : (DataW.laidRun P w fuel (l.map (·.1))).map (fun x => placeBits x.2 0 && laidRowsB P w x.2) = some true) : laidMet P l w := by
 cases hx : DataW.laidRun P w fuel (l.map (·.1)) with
 | none => simp [hx] at h
 | some x =>
  obtain ⟨l', ps⟩ := x
  simp only [hx, Option.map_some, Option.some.injEq] at h hr
  subst h
  simp only [Bool.and_eq_true] at hr
  exact laidMet_of_run fuel hx (decide_eq_true (placeBits_ok _ _ hr.1).1) hr.2
end Go.Dl

-- Chapter 3: the reading of the package's variables; a world in which they hold what their text lays.
namespace Go.Dl
open Go Go.RowKit Go.Proofs Go.Proofs.YtfekogpdmjbdkaaGreatDoor
set_option maxRecDepth 100000
theorem laidOut : laidOutB Tryz.prog = true := by kernel_rfl
theorem laid_exact {P : Program} {w : World} {laid : List (String × DataW Unit)} {n : String} {d : DataW Unit} {g : Nat} (hl : laidOutB P = true) (h : laidMet P laid w) (hm : (n, d) ∈ laid) (hd : litsB d = true) (hg : P.globalNamed n = some g)
  (hgt : isVar P (((P.globals[g]?).map (·.type)).getD 0) = true) : csize w.heap[g]? = some (litCells d).length := by
 obtain ⟨g', t, cs, fuel, p, h1, h2, h3, h4, _⟩ := laid_at h hm
 rw [hg] at h1; cases h1
 rw [h2] at hgt
 have hc := trod_lits hl fuel t cs.toList d p hgt hd h4
 unfold World.var? at h3
 rw [hg] at h3
 simp only [Option.bind_some] at h3
 split at h3
 ·rename_i c t' fz ho
  cases h3
  rw [ho]
  simp only [csize, Option.some.injEq]
  rw [← hc, Array.length_toList]
 ·cases h3
theorem ofVals_length : ∀ l : List Value, (ofVals l).length = l.length
 | [] => rfl
 | _ :: l => by simp [ofVals, ofVals_length l]
theorem e_space : ofVals (litCells Rows.laid_strings_asciiSpace) = Lib.asciiSpaceTab.map fun z => DVal.int .u8 z := by kernel_rfl
section
end
noncomputable def putV (h : Array Obj) (g : Nat) (cs : Array Value) : Array Obj := h.modify g fun
 | .cells _ t frozen => .cells cs t frozen
 | o => o
theorem gx_of {laid : List (String × DataW Unit)} {W : World} (hL : laidMetH Tryz.prog laid W) (hs : W.ShapedOpen Tryz.prog) (hh : (laid.filter fun x => x.2.handleName?.isSome) = [])
  (m5 : ("strings.asciiSpace", Rows.laid_strings_asciiSpace) ∈ laid) : ∃ G, GX G ∧ GOk G W (fun _ => none) := by
 have hL' : laidMet Tryz.prog laid W := by
  unfold laidMetH at hL
  rw [hh] at hL
  exact hL
 have r5 := laid_rel laidOut hL' m5 (by kernel_rfl) (show Tryz.prog.globalNamed "strings.asciiSpace" = some 0 by kernel_rfl) (by kernel_rfl)
 have x5 := laid_exact laidOut hL' m5 (by kernel_rfl) (show Tryz.prog.globalNamed "strings.asciiSpace" = some 0 by kernel_rfl) (by kernel_rfl)
 refine ⟨fun g => if g = 0 then .vptr (ofVals (litCells Rows.laid_strings_asciiSpace)) 0 else .optr g 0, ⟨by simp [e_space]⟩, ⟨fun g => ?_, fun g cs e => ?_⟩⟩
 ·show Rel W _ (if g = _ then _ else _) _
  split
  ·rename_i e; subst e; exact r5
  ·simp [Rel]
 ·change (if g = _ then _ else _) = _ at e
  split at e
  ·rename_i e'; subst e'; cases e; rw [x5, ofVals_length]
  ·cases e
noncomputable def world03 (os : Os) : World :=
 let N := (World.settled Tryz.prog os).heap.size
 let w0 := World.holding Tryz.prog os ⟨#[.cells #[.slice (some ⟨N + 1, 0, none⟩) 7 7, .slice none 0 0, .int .i64 2] 194,
  .cells (#[9, 13, 1, 32, 133, 101, 160, 5760, 5600, 8192, 8202, 1, 8232, 8233, 1, 8239, 8287, 48, 12288, 12288, 1].map (Value.int .u16)) 197], #[], []⟩
 let h9 := putV w0.heap 0 (litCells Rows.laid_strings_asciiSpace).toArray
 let ha := putV h9 1 #[.pointer (some ⟨N, 0, none⟩)]
 { w0 with heap := ha }
def zExpr : Array Value := #[.int .u8 0, .int .u8 0, .int .i64 0, .string ⟨#[]⟩, .slice none 0 0, .slice none 0 0, .int .i64 0, .int .i64 0, .int .i64 0]
def zExprD {H : Type} : List (DataW H) := [.lit (.int .u8 0), .lit (.int .u8 0), .lit (.int .i64 0), .lit (.string []), .nil, .nil, .lit (.int .i64 0), .lit (.int .i64 0), .lit (.int .i64 0)]
section
end
end Go.Dl

-- Chapter 3: what Front answers to the tokens of an expression.
namespace Go.Dl
open Go
set_option maxRecDepth 10000
def zT (ts : List Tok) : Prop := ∀ t ∈ ts, t.line = 0
theorem zT_nil : zT [] := fun t h => by cases h
theorem zT_cons {t : Tok} {ts : List Tok} (h : t.line = 0) (k : zT ts) : zT (t :: ts) := fun x hx => by
 rcases List.mem_cons.1 hx with rfl | hx
 ·exact h
 ·exact k x hx
theorem zT_append {a b : List Tok} (h : zT a) (k : zT b) : zT (a ++ b) := fun x hx => by
 rcases List.mem_append.1 hx with hx | hx
 ·exact h x hx
 ·exact k x hx
theorem zT_parT {b : Bool} {t : List Tok} (h : zT t) : zT (parT b t) := by
 cases b with
 | false => exact h
 | true => exact zT_cons rfl (zT_append h (zT_cons rfl zT_nil))
theorem zT_words (ws : List (List UInt8)) : zT (ws.map wTok) := fun t h => by
 obtain ⟨s, _, rfl⟩ := List.mem_map.1 h
 rfl
theorem zT_sep (s : List UInt8) : ∀ {l : List (List Tok)}, (∀ t ∈ l, zT t) → zT (sepT s l)
 | [], _ => zT_nil
 | [x], h => h x (by simp)
 | x :: y :: r, h => by
  rw [sepT_cons s x _ (by simp)]
  exact zT_append (h x (by simp)) (zT_cons rfl (zT_sep s fun t ht => h t (List.mem_cons_of_mem _ ht)))
theorem zT_getD {l : List (List Tok)} (h : ∀ t ∈ l, zT t) (i : Nat) : zT (l.getD i []) := by
 rw [List.getD]
 cases hi : l[i]? with
 | none => exact zT_nil
 | some t => exact h t (List.mem_of_getElem? hi)
theorem ite_zT {c : Prop} [Decidable c] {a b : List Tok} (h : zT a) (k : zT b) : zT (if c then a else b) := by
 split
 ·exact h
 ·exact k
theorem zT_form (e : Ex) {tl ta : List (List Tok)} (h : ∀ t ∈ tl, zT t) (k : ∀ t ∈ ta, zT t) : zT (formE e tl ta) := by
 have g := fun i => zT_getD h i
 have p := fun i (b : Bool) => zT_parT (b := b) (g i)
 unfold formE
 dsimp only
 repeat' (refine ite_zT ?_ ?_)
 ·exact zT_cons rfl zT_nil
 ·exact zT_cons rfl zT_nil
 ·exact zT_cons rfl zT_nil
 ·exact zT_append (g 0) (zT_cons rfl (zT_cons rfl zT_nil))
 ·exact zT_append (g 0) (zT_cons rfl (zT_cons rfl zT_nil))
 ·exact zT_append (g 0) (zT_cons rfl (zT_cons rfl zT_nil))
 ·exact zT_append (g 0) (zT_cons rfl (zT_append (zT_sep _ k) (zT_cons rfl zT_nil)))
 ·exact zT_append (g 0) (zT_cons rfl (p 1 _))
 ·exact zT_cons rfl (zT_append (zT_sep _ k) (zT_cons rfl zT_nil))
 ·exact zT_cons rfl (zT_cons rfl (zT_append (g 0) (zT_cons rfl (zT_append (g 1) (zT_cons rfl (zT_append (g 2) (zT_cons rfl zT_nil)))))))
 ·exact zT_append (zT_words _) (p 0 _)
 ·exact zT_append (p 0 _) (zT_append (zT_words _) (p 1 _))
 ·exact zT_append (p 0 _) (zT_cons rfl (ite_zT (zT_append (p 1 _) (zT_cons rfl (p 2 _))) (g 1)))
 ·exact zT_append (p 0 _) (zT_cons rfl (zT_cons rfl (ite_zT (zT_append (p 1 _) (zT_cons rfl (p 2 _))) (g 1))))
theorem zT_formC (k : Int) (l : List Ex) {tl : List (List Tok)} (h : ∀ t ∈ tl, zT t) : zT (formC k l tl) := by
 have g := fun i => zT_getD h i
 have p := fun i (b : Bool) => zT_parT (b := b) (g i)
 unfold formC
 dsimp only
 repeat' (refine ite_zT ?_ ?_)
 ·exact g 0
 ·exact zT_append (p 0 _) (zT_cons rfl (p 1 _))
 ·exact zT_cons rfl zT_nil
mutual
theorem zT_E : ∀ e : Ex, zT (toksE e)
 | .mk k o n s l a li en t => by rw [toksE]; exact zT_form _ (zT_LE l) (zT_As a)
theorem zT_LE : ∀ l : List Ex, ∀ t ∈ toksLE l, zT t
 | [] => fun t h => by cases h
 | x :: l => fun t h => by
  rw [toksLE] at h
  rcases List.mem_cons.1 h with rfl | h
  ·exact zT_E x
  ·exact zT_LE l t h
theorem zT_A : ∀ a : As, zT (toksA a)
 | .mk c e => by
  rw [toksA, formA]
  split
  ·exact zT_E e
  ·exact zT_append (zT_sep _ (zT_Cs c)) (zT_cons rfl (zT_E e))
theorem zT_As : ∀ l : List As, ∀ t ∈ toksAs l, zT t
 | [] => fun t h => by cases h
 | x :: l => fun t h => by
  rw [toksAs] at h
  rcases List.mem_cons.1 h with rfl | h
  ·exact zT_A x
  ·exact zT_As l t h
theorem zT_C : ∀ c : Ch, zT (toksC c)
 | .mk k l => by rw [toksC]; exact zT_formC _ _ (zT_LE l)
theorem zT_Cs : ∀ l : List Ch, ∀ t ∈ toksCs l, zT t
 | [] => fun t h => by cases h
 | x :: l => fun t h => by
  rw [toksCs] at h
  rcases List.mem_cons.1 h with rfl | h
  ·exact zT_C x
  ·exact zT_Cs l t h
end
theorem zT_map {ts : List Tok} (h : zT ts) : ts.map stT = ts := by
 induction ts with
 | nil => rfl
 | cons t ts ih =>
  rw [List.map_cons, ih fun x hx => h x (List.mem_cons_of_mem _ hx)]
  congr 1
  have := h t (by simp)
  cases t
  simp [stT] at this ⊢
  exact this.symm
theorem nt_some {α β : Type} {f : α → β} {r : Res α} {r' : Res β} {y : β} {k : Nat} (h : Nt f r r') (e : r' = .ok y k) : ∃ x, r = .ok x k ∧ f x = y := by
 cases r with
 | bot => rw [show r' = .bot from h] at e; cases e
 | fail j => rw [show r' = .fail j from h] at e; cases e
 | ok x j =>
  rw [show r' = .ok (f x) j from h] at e
  cases e
  exact ⟨x, rfl, rfl⟩
section
variable {l : List Tok} {e : Ex} {k' : Nat}
theorem lvl_nat (j : Nat) : Nt stE (lvlR l j) (lvlR (l.map stT) j) := by
 have h := Q_nat (l := l)
 unfold lvlR
 split
 ·exact h.expr 0
 ·exact nt_then (h.simple 0) fun x k => h.relation x k
 ·exact h.simple 0
 ·exact h.term 0
 ·exact h.factor 0
 ·exact h.primary 0
 ·exact h.name 0
theorem lvl_rd (r : Rd l (Q l) e 0 k') (h : nof w0 (tk l k')) (j : Nat) (hj : (j : Int) ≤ levelE e ∨ j = 6 ∧ namedE e = true) : lvlR l j = .ok (stE e) k' := by
 have h1 := s10 h
 have hg := level_ge e
 by_cases c6 : j = 6
 ·subst c6
  rcases hj with hj | ⟨_, hn⟩
  ·omega
  ·show (Q l).name 0 = _
   rw [r.name hn, name_stop r.le.2 (nof_sub h (by decide))]
 ·have hj : (j : Int) ≤ levelE e := hj.resolve_right fun x => c6 x.1
  have hc : j = 0 ∨ j = 1 ∨ j = 2 ∨ j = 3 ∨ j = 4 ∨ j = 5 := by omega
  rcases hc with rfl | rfl | rfl | rfl | rfl | rfl
  ·exact r.full h
  ·exact r.rel hj (sd1 h1) fun _ => h1
  ·show (Q l).simple 0 = _
   rw [r.simp hj (s31 h1), addL_stop r.le.2 (nof_sub h (by decide))]
  ·show (Q l).term 0 = _
   rw [r.term hj (nof_sub h (by decide)), mulL_stop r.le.2 (s31 h1)]
  ·exact r.fac hj (nof_sub h (by decide))
  ·exact r.prim (by omega) (nof_sub h (by decide))
theorem lvl_back {rest : List Tok} (hv : validE 1 e = true) (hl : l.map stT = toksE e ++ rest) (hn : nof w0 (tk l (toksE e).length)) (j : Nat) (hj : (j : Int) ≤ levelE e ∨ j = 6 ∧ namedE e = true) :
  ∃ x, lvlR l j = .ok x (toksE e).length ∧ stE x = stE e := by
 have hz : ∀ k, (tk (l.map stT) k).line = 0 := fun k => tk_st_line k
 have hat : At (l.map stT) 0 (toksE e) := ⟨Nat.zero_le _, rest, by rw [List.drop_zero, hl]⟩
 have r := rt_all (p := Q (l.map stT)) hz e 1 hv 0 hat
 rw [Nat.zero_add] at r
 exact nt_some (lvl_nat j) (lvl_rd r (by rw [tk_st]; exact hn) j hj)
theorem front_back {rest : List Tok} (hm : mayE e = true) (hl : l.map stT = toksE e ++ rest) (hn : nof w0 (tk l (toksE e).length)) (j : Nat) (hj : (j : Int) ≤ levelE e ∨ j = 6 ∧ namedE e = true) :
  ∃ x, frontP l j = (x, ((toksE e).length : Int), 0) ∧ stE x = stE e := by
 obtain ⟨x, h1, h2⟩ := lvl_back (may_valid hm) hl hn j hj
 have hj7 : ¬ ((j : Int) < 0 ∨ 7 ≤ (j : Int)) := by have := (level_ge e).2; omega
 refine ⟨x, ?_, h2⟩
 rw [frontP, if_neg hj7, Int.toNat_natCast, h1]
 show (if mayE x = true then _ else _) = _
 rw [if_pos (by rw [same_may h2, hm])]
theorem front_alone (hm : mayE e = true) (j : Nat) (hj : (j : Int) ≤ levelE e ∨ j = 6 ∧ namedE e = true) : ∃ x, frontP (toksE e) j = (x, ((toksE e).length : Int), 0) ∧ stE x = stE e :=
 front_back (rest := []) hm (by rw [zT_map (zT_E e), List.append_nil]) (by rw [tk_none (Nat.le_refl _)]; exact nof_0 _) j hj
theorem sameE_of {x y : Ex} (h : stE x = stE y) : sameE x y = true := (same_stE x y).2 h
end
end Go.Dl

-- Chapter 3: ExprBack.
namespace Go.Dl
open Go Go.Proofs
set_option maxRecDepth 100000
def fT (ts : List Tok) : Prop := ∀ t ∈ ts, t.text.length ≤ 9223372036854775807
theorem fT_nil : fT [] := fun t h => by cases h
theorem fT_cons {t : Tok} {ts : List Tok} (h : t.text.length ≤ 9223372036854775807) (k : fT ts) : fT (t :: ts) := fun x hx => by
 rcases List.mem_cons.1 hx with rfl | hx
 ·exact h
 ·exact k x hx
theorem fT_append {a b : List Tok} (h : fT a) (k : fT b) : fT (a ++ b) := fun x hx => by
 rcases List.mem_append.1 hx with hx | hx
 ·exact h x hx
 ·exact k x hx
theorem fT_parT {b : Bool} {t : List Tok} (h : fT t) : fT (parT b t) := by
 cases b with
 | false => exact h
 | true => exact fT_cons (by first | decide | exact hs | exact Nat.zero_le _) (fT_append h (fT_cons (by first | decide | exact hs | exact Nat.zero_le _) fT_nil))
theorem wordsN_le (o : Nat) : ∀ s ∈ wordsN o, s.length ≤ 9223372036854775807 := by
 rw [wordsN, List.getD]
 by_cases h : o < 22
 ·have : ∀ i : Fin 22, ∀ s ∈ ((wordsL[i.1]?).getD []), s.length ≤ 9223372036854775807 := by decide +kernel
  exact this ⟨o, h⟩
 ·rw [List.getElem?_eq_none (by have : wordsL.length = 22 := rfl; omega)]
  intro s hs; cases hs
theorem fT_words (o : Nat) : fT ((wordsN o).map wTok) := fun t h => by
 obtain ⟨s, hs, rfl⟩ := List.mem_map.1 h
 exact wordsN_le o s hs
theorem fT_sep {s : List UInt8} (hs : (wTok s).text.length ≤ 9223372036854775807) : ∀ {l : List (List Tok)}, (∀ t ∈ l, fT t) → fT (sepT s l)
 | [], _ => fT_nil
 | [x], h => h x (by simp)
 | x :: y :: r, h => by
  rw [sepT_cons s x _ (by simp)]
  exact fT_append (h x (by simp)) (fT_cons hs (fT_sep hs fun t ht => h t (List.mem_cons_of_mem _ ht)))
theorem fT_getD {l : List (List Tok)} (h : ∀ t ∈ l, fT t) (i : Nat) : fT (l.getD i []) := by
 rw [List.getD]
 cases hi : l[i]? with
 | none => exact fT_nil
 | some t => exact h t (List.mem_of_getElem? hi)
theorem ite_fT {c : Prop} [Decidable c] {a b : List Tok} (h : fT a) (k : fT b) : fT (if c then a else b) := by
 split
 ·exact h
 ·exact k
theorem fT_form (e : Ex) (hs : e.s.length ≤ 9223372036854775807) {tl ta : List (List Tok)} (h : ∀ t ∈ tl, fT t) (k : ∀ t ∈ ta, fT t) : fT (formE e tl ta) := by
 have g := fun i => fT_getD h i
 have p := fun i (b : Bool) => fT_parT (b := b) (g i)
 unfold formE
 dsimp only
 repeat' (refine ite_fT ?_ ?_)
 ·exact fT_cons (by first | decide | exact hs | exact Nat.zero_le _) fT_nil
 ·exact fT_cons (by first | decide | exact hs | exact Nat.zero_le _) fT_nil
 ·exact fT_cons (by first | decide | exact hs | exact Nat.zero_le _) fT_nil
 ·exact fT_append (g 0) (fT_cons (by first | decide | exact hs | exact Nat.zero_le _) (fT_cons (by first | decide | exact hs | exact Nat.zero_le _) fT_nil))
 ·exact fT_append (g 0) (fT_cons (by first | decide | exact hs | exact Nat.zero_le _) (fT_cons (by first | decide | exact hs | exact Nat.zero_le _) fT_nil))
 ·exact fT_append (g 0) (fT_cons (by first | decide | exact hs | exact Nat.zero_le _) (fT_cons (by first | decide | exact hs | exact Nat.zero_le _) fT_nil))
 ·exact fT_append (g 0) (fT_cons (by first | decide | exact hs | exact Nat.zero_le _) (fT_append (fT_sep (by first | decide | exact hs | exact Nat.zero_le _) k) (fT_cons (by first | decide | exact hs | exact Nat.zero_le _) fT_nil)))
 ·exact fT_append (g 0) (fT_cons (by first | decide | exact hs | exact Nat.zero_le _) (p 1 _))
 ·exact fT_cons (by first | decide | exact hs | exact Nat.zero_le _) (fT_append (fT_sep (by first | decide | exact hs | exact Nat.zero_le _) k) (fT_cons (by first | decide | exact hs | exact Nat.zero_le _) fT_nil))
 ·exact fT_cons (by first | decide | exact hs | exact Nat.zero_le _) (fT_cons (by first | decide | exact hs | exact Nat.zero_le _) (fT_append (g 0) (fT_cons (by first | decide | exact hs | exact Nat.zero_le _) (fT_append (g 1) (fT_cons (by first | decide | exact hs | exact Nat.zero_le _) (fT_append (g 2) (fT_cons (by first | decide | exact hs | exact Nat.zero_le _) fT_nil)))))))
 ·exact fT_append (fT_words _) (p 0 _)
 ·exact fT_append (p 0 _) (fT_append (fT_words _) (p 1 _))
 ·exact fT_append (p 0 _) (fT_cons (by first | decide | exact hs | exact Nat.zero_le _) (ite_fT (fT_append (p 1 _) (fT_cons (by first | decide | exact hs | exact Nat.zero_le _) (p 2 _))) (g 1)))
 ·exact fT_append (p 0 _) (fT_cons (by first | decide | exact hs | exact Nat.zero_le _) (fT_cons (by first | decide | exact hs | exact Nat.zero_le _) (ite_fT (fT_append (p 1 _) (fT_cons (by first | decide | exact hs | exact Nat.zero_le _) (p 2 _))) (g 1))))
theorem fT_formC (k : Int) (l : List Ex) {tl : List (List Tok)} (h : ∀ t ∈ tl, fT t) : fT (formC k l tl) := by
 have g := fun i => fT_getD h i
 have p := fun i (b : Bool) => fT_parT (b := b) (g i)
 unfold formC
 dsimp only
 repeat' (refine ite_fT ?_ ?_)
 ·exact g 0
 ·exact fT_append (p 0 _) (fT_cons (by first | decide | exact hs | exact Nat.zero_le _) (p 1 _))
 ·exact fT_cons (by first | decide | exact hs | exact Nat.zero_le _) fT_nil
mutual
theorem fT_E : ∀ e : Ex, okE e → fT (toksE e)
 | .mk k o n s l a li en t, h => by
  rw [okE] at h
  rw [toksE]; exact fT_form (.mk k o n s l a li en t) h.1 (fT_LE l h.2.1) (fT_As a h.2.2)
theorem fT_LE : ∀ l : List Ex, okL l → ∀ t ∈ toksLE l, fT t
 | [], _ => fun t h => by cases h
 | x :: l, hk => fun t h => by
  rw [okL] at hk
  rw [toksLE] at h
  rcases List.mem_cons.1 h with rfl | h
  ·exact fT_E x hk.1
  ·exact fT_LE l hk.2 t h
theorem fT_A : ∀ a : As, okA a → fT (toksA a)
 | .mk c e, h => by
  rw [okA] at h
  rw [toksA, formA]
  split
  ·exact fT_E e h.2
  ·exact fT_append (fT_sep (by decide) (fT_Cs c h.1)) (fT_cons (by decide) (fT_E e h.2))
theorem fT_As : ∀ l : List As, okAs l → ∀ t ∈ toksAs l, fT t
 | [], _ => fun t h => by cases h
 | x :: l, hk => fun t h => by
  rw [okAs] at hk
  rw [toksAs] at h
  rcases List.mem_cons.1 h with rfl | h
  ·exact fT_A x hk.1
  ·exact fT_As l hk.2 t h
theorem fT_C : ∀ c : Ch, okC c → fT (toksC c)
 | .mk k l, h => by
  rw [okC] at h
  rw [toksC]; exact fT_formC _ _ (fT_LE l h)
theorem fT_Cs : ∀ l : List Ch, okCs l → ∀ t ∈ toksCs l, fT t
 | [], _ => fun t h => by cases h
 | x :: l, hk => fun t h => by
  rw [okCs] at hk
  rw [toksCs] at h
  rcases List.mem_cons.1 h with rfl | h
  ·exact fT_C x hk.1
  ·exact fT_Cs l hk.2 t h
end
theorem fT_fit {l : List Tok} (h : fT l) : TokFit l := fun k => by
 rw [tk, List.getD]
 cases hk : l[k]? with
 | none => decide
 | some t => exact h t (List.mem_of_getElem? hk)
mutual
theorem big_stE : ∀ e : Ex, bigE (stE e) = bigE e
 | .mk k o n s l a li en t => by rw [stE, bigE, bigE, big_stL l, big_stAs a]
theorem big_stL : ∀ l : List Ex, bigL (stL l) = bigL l
 | [] => rfl
 | x :: l => by rw [stL, bigL, bigL, big_stE x, big_stL l]
theorem big_stA : ∀ a : As, bigA (stA a) = bigA a
 | .mk c e => by rw [stA, bigA, bigA, big_stCs c, big_stE e]
theorem big_stAs : ∀ l : List As, bigAs (stAs l) = bigAs l
 | [] => rfl
 | x :: l => by rw [stAs, bigAs, bigAs, big_stA x, big_stAs l]
theorem big_stC : ∀ c : Ch, bigC (stC c) = bigC c
 | .mk k l => by rw [stC, bigC, bigC, big_stL l]
theorem big_stCs : ∀ l : List Ch, bigCs (stCs l) = bigCs l
 | [] => rfl
 | x :: l => by rw [stCs, bigCs, bigCs, big_stC x, big_stCs l]
end
theorem big_same {x e : Ex} (h : stE x = stE e) : bigE x = bigE e := by rw [← big_stE x, h, big_stE]
section
variable {G : Nat → DVal}
set_option maxHeartbeats 8000000 in
theorem exprBack_spec (hG : GX G) (H : DHeap) (a : Ex) (ha : FitE a) : DCalls Tryz.prog G 3 [.agg (dEx a)] H (DRet (.bool true) H) := by
 have hA := ha.1
 refine dcalls_intro Tryz.func3 Tryz.call3 rfl (by kernel_rfl) ?_
 simp (disch := omega) only [go_sem, DVal.cells]
 intro r1 hr1; dsimp only at hr1
 obtain ⟨K, hK⟩ : ∃ K', K' = upd H r1 (some (.cells (dEx a) 27)) := ⟨_, rfl⟩
 rw [← hK]
 have gr1 : K r1 = some (.cells (dEx a) 27) := by rw [hK]; exact upd_same _ _ _
 have sK : Sub H K := by rw [hK]; exact (Sub.refl _).new hr1 _
 simp (disch := omega) only [go_sem, gr1]
 refine (tokens_spec hG K a ha.fit).mono ?_
 rintro _ K1 ⟨rfl, rfl⟩
 simp (disch := omega) only [go_sem, gr1]
 refine (rmay_spec G K1 a (by omega)).mono ?_
 rintro _ K2 ⟨rfl, rfl⟩
 cases hm : mayE a with
 | false =>
  have ht : tokensE a = ([], 2) := by rw [tokensE, hm]; rfl
  rw [ht]
  simp (disch := omega) only [go_sem, gr1, dToks, List.length_nil]
  refine (may_spec hG K2 a ha.fit).mono ?_
  rintro _ H1 ⟨rfl, rfl⟩
  rw [hm]
  simp (disch := omega) only [go_sem]
  refine (awake_spec hG H1).mono ?_
  rintro _ H2 ⟨rfl, rfl⟩
  simp (disch := omega) only [go_sem]
  exact DFin.sub sK (.refl ⟨rfl, rfl⟩)
 | true =>
  have ht : tokensE a = (toksE a, 0) := by rw [tokensE, hm]; rfl
  have hlen := may_len hm
  have hfit : TokFit (toksE a) := fT_fit (fT_E a ha.2)
  have hlv := level_ge a
  rw [ht]
  simp (disch := omega) only [go_sem, gr1]
  refine (level_spec G K2 a).mono ?_
  rintro _ K3 ⟨rfl, rfl⟩
  simp (disch := omega) only [go_sem]
  intro q2 hq2; dsimp only at hq2
  obtain ⟨L, hL⟩ : ∃ K', K' = upd K3 q2 (some (.cells [dI 0, dI (levelE a)] 3)) := ⟨_, rfl⟩
  rw [← hL]
  have gq2 : L q2 = some (.cells [dI 0, dI (levelE a)] 3) := by rw [hL]; exact upd_same _ _ _
  have sL : Sub K3 L := by rw [hL]; exact (Sub.refl _).new hq2 _
  have gq1 : L r1 = some (.cells (dEx a) 27) := sL _ _ gr1
  have hsL : Sub H L := sK.trans sL
  simp (disch := omega) only [go_sem, gq1]
  refine (namedE_spec G L a).mono ?_
  rintro _ K4 ⟨rfl, rfl⟩
  have lv0 : ∃ x, frontP (toksE a) 0 = (x, ((toksE a).length : Int), 0) ∧ stE x = stE a := front_alone hm 0 (.inl hlv.1)
  have lv1 : ∃ x, frontP (toksE a) (levelE a) = (x, ((toksE a).length : Int), 0) ∧ stE x = stE a := by
   have := front_alone hm (levelE a).toNat (.inl (by omega))
   rwa [Int.toNat_of_nonneg hlv.1] at this
  cases hn : namedE a with
  | false =>
   obtain ⟨q, hq⟩ : ∃ q, q = q2 := ⟨_, rfl⟩
   obtain ⟨Hq, hHq⟩ : ∃ Hq, Hq = K4 := ⟨_, rfl⟩
   have hq2 : Hq q = some (.cells [dI 0, dI (levelE a)] 3) := by rw [hq, hHq]; exact gq2
   have hsq : Sub H Hq := by rw [hHq]; exact hsL
   rw [← hHq] at gq1 ⊢
   have lvs : ∀ j, j < 2 → ∃ lv, ([dI 0, dI (levelE a)] : List DVal)[j]? = some (dI lv) ∧ ∃ x, frontP (toksE a) lv = (x, ((toksE a).length : Int), 0) ∧ stE x = stE a := fun j hj => by
    have : j = 0 ∨ j = 1 := by omega
    rcases this with rfl | rfl
    ·exact ⟨_, rfl, lv0⟩
    ·exact ⟨_, rfl, lv1⟩
   rw [← hq]
   try simp (disch := omega) only [go_sem, hq2]
   obtain ⟨I, hI⟩ : ∃ I : Nat → (Nat → DVal) → DHeap → Prop, ∀ j env heap, I j env heap ↔ (env 1 = .optr r1 0 ∧ env 3 = dToks (toksE a) ∧ env 44 = .oslice 1 q 0 2 2 ∧ env 45 = dI 2 ∧ env 46 = dI j ∧ j ≤ 2 ∧ Sub Hq heap) := ⟨_, fun _ _ _ => Iff.rfl⟩
   refine DLoop.run I (fun j => 2 - j) 0 ((hI _ _ _).2 ?_) ?_
   ·simp (disch := omega) only [go_sem]
    (repeat' apply And.intro) <;> (try first | rfl | assumption | omega)
    exact Sub.refl Hq
   ·intro j env heap hi
    obtain ⟨e1, e3, e44, e45, e46, hj, hs⟩ := (hI _ _ _).1 hi
    have k1 := hs _ _ gq1
    have kq := hs _ _ hq2
    by_cases hlt : j < 2
    ·have hlt' : (j : Int) < 2 := by omega
     have hw1 : IntKind.i64.wrap ((j : Int) + 1) = ((j + 1 : Nat) : Int) := by rw [IntKind.wrap_i64]; omega
     obtain ⟨lv, hlv, x, hf, hst⟩ := lvs j hlt
     simp (disch := omega) only [go_sem, e1, e3, e44, e45, e46, hlt', kq, hlv, Int.toNat_natCast]
     refine (front_spec hG heap lv (by omega) hfit).mono ?_
     rintro _ H1 ⟨rfl, rfl⟩
     rw [hf]
     have hlx := dEx_len x
     have hox := dEx_one x
     simp (disch := omega) only [go_sem, e1, e3, e44, e45, e46, dFront, dE]
     intro r8 hr8; dsimp only at hr8
     have n1 : r1 ≠ r8 := none_ne hr8 k1
     have m1 := n1.symm
     simp (disch := omega) only [go_sem, e1, e3, e44, e45, e46, hlx, hox, n1, m1, k1, dToks]
     refine (same_spec G _ x a (by rw [big_same hst]; omega)).mono ?_
     rintro _ H2 ⟨rfl, rfl⟩
     rw [sameE_of hst]
     simp (disch := omega) only [go_sem, e1, e3, e44, e45, e46]
     refine ⟨j + 1, _, GhostS.refl _, (hI _ _ _).2 ?_, by omega⟩
     simp (disch := omega) only [go_sem, e1, e3, e44, e45, e46, hw1]
     (repeat' apply And.intro) <;> (try first | rfl | assumption | omega)
     exact hs.new hr8 _
    ·have hje : j = 2 := by omega
     subst hje
     have hlt' : ¬ (((2 : Nat) : Int) < 2) := by omega
     simp (disch := omega) only [go_sem, e1, e3, e44, e45, e46, k1]
     refine (may_spec hG heap a ha.fit).mono ?_
     rintro _ H1 ⟨rfl, rfl⟩
     rw [hm]
     simp (disch := omega) only [go_sem, e1, e3, e44, e45, e46, k1]
     refine (awake_spec hG H1).mono ?_
     rintro _ H2 ⟨rfl, rfl⟩
     simp (disch := omega) only [go_sem]
     exact DFin.sub (hsq.trans hs) (.refl ⟨rfl, rfl⟩)
  | true =>
   have lv2 : ∃ x, frontP (toksE a) 6 = (x, ((toksE a).length : Int), 0) ∧ stE x = stE a := front_alone hm 6 (.inr ⟨rfl, hn⟩)
   have lvs : ∀ j, j < 3 → ∃ lv, ([dI 0, dI (levelE a), dI 6] : List DVal)[j]? = some (dI lv) ∧ ∃ x, frontP (toksE a) lv = (x, ((toksE a).length : Int), 0) ∧ stE x = stE a := fun j hj => by
    have : j = 0 ∨ j = 1 ∨ j = 2 := by omega
    rcases this with rfl | rfl | rfl
    ·exact ⟨_, rfl, lv0⟩
    ·exact ⟨_, rfl, lv1⟩
    ·exact ⟨_, rfl, lv2⟩
   simp (disch := omega) only [go_sem]
   intro r42 hr42; dsimp only at hr42
   have n42 : q2 ≠ r42 := none_ne hr42 gq2
   simp (disch := omega) only [go_sem, n42, n42.symm, gq2]
   intro q hqn
   have n12 : r1 ≠ q2 := none_ne hq2 gr1
   have n1r : r1 ≠ r42 := none_ne hr42 gq1
   have n1q : r1 ≠ q := fun e => by rw [← e] at hqn; simp [upd, n12, n1r, gq1] at hqn
   obtain ⟨Hq, hHq⟩ : ∃ Hq, Hq = upd (upd (upd K4 r42 (some (.cells [dI 6] 3))) q2 none) q (some (.cells [dI 0, dI (levelE a), dI 6] 3)) := ⟨_, rfl⟩
   try rw [← hHq]
   have hq2 : Hq q = some (.cells [dI 0, dI (levelE a), dI 6] 3) := by rw [hHq]; exact upd_same _ _ _
   have gq1 : Hq r1 = some (.cells (dEx a) 27) := by rw [hHq]; exact keepU (keepU (keepU gq1 n1r) n12) n1q
   have hsq : Sub H Hq := by rw [hHq]; exact ((hsL.new hr42 _).up (sK.lo ‹K3 q2 = none›) none).new hqn _
   try simp (disch := omega) only [go_sem, hq2]
   obtain ⟨I, hI⟩ : ∃ I : Nat → (Nat → DVal) → DHeap → Prop, ∀ j env heap, I j env heap ↔ (env 1 = .optr r1 0 ∧ env 3 = dToks (toksE a) ∧ env 44 = .oslice 1 q 0 3 3 ∧ env 45 = dI 3 ∧ env 46 = dI j ∧ j ≤ 3 ∧ Sub Hq heap) := ⟨_, fun _ _ _ => Iff.rfl⟩
   refine DLoop.run I (fun j => 3 - j) 0 ((hI _ _ _).2 ?_) ?_
   ·simp (disch := omega) only [go_sem]
    (repeat' apply And.intro) <;> (try first | rfl | assumption | omega)
    exact Sub.refl Hq
   ·intro j env heap hi
    obtain ⟨e1, e3, e44, e45, e46, hj, hs⟩ := (hI _ _ _).1 hi
    have k1 := hs _ _ gq1
    have kq := hs _ _ hq2
    by_cases hlt : j < 3
    ·have hlt' : (j : Int) < 3 := by omega
     have hw1 : IntKind.i64.wrap ((j : Int) + 1) = ((j + 1 : Nat) : Int) := by rw [IntKind.wrap_i64]; omega
     obtain ⟨lv, hlv, x, hf, hst⟩ := lvs j hlt
     simp (disch := omega) only [go_sem, e1, e3, e44, e45, e46, hlt', kq, hlv, Int.toNat_natCast]
     refine (front_spec hG heap lv (by omega) hfit).mono ?_
     rintro _ H1 ⟨rfl, rfl⟩
     rw [hf]
     have hlx := dEx_len x
     have hox := dEx_one x
     simp (disch := omega) only [go_sem, e1, e3, e44, e45, e46, dFront, dE]
     intro r8 hr8; dsimp only at hr8
     have n1 : r1 ≠ r8 := none_ne hr8 k1
     have m1 := n1.symm
     simp (disch := omega) only [go_sem, e1, e3, e44, e45, e46, hlx, hox, n1, m1, k1, dToks]
     refine (same_spec G _ x a (by rw [big_same hst]; omega)).mono ?_
     rintro _ H2 ⟨rfl, rfl⟩
     rw [sameE_of hst]
     simp (disch := omega) only [go_sem, e1, e3, e44, e45, e46]
     refine ⟨j + 1, _, GhostS.refl _, (hI _ _ _).2 ?_, by omega⟩
     simp (disch := omega) only [go_sem, e1, e3, e44, e45, e46, hw1]
     (repeat' apply And.intro) <;> (try first | rfl | assumption | omega)
     exact hs.new hr8 _
    ·have hje : j = 3 := by omega
     subst hje
     have hlt' : ¬ (((3 : Nat) : Int) < 3) := by omega
     simp (disch := omega) only [go_sem, e1, e3, e44, e45, e46, k1]
     refine (may_spec hG heap a ha.fit).mono ?_
     rintro _ H1 ⟨rfl, rfl⟩
     rw [hm]
     simp (disch := omega) only [go_sem, e1, e3, e44, e45, e46, k1]
     refine (awake_spec hG H1).mono ?_
     rintro _ H2 ⟨rfl, rfl⟩
     simp (disch := omega) only [go_sem]
     exact DFin.sub (hsq.trans hs) (.refl ⟨rfl, rfl⟩)
end
end Go.Dl

-- Chapter 3: ExprAgain.
namespace Go.Dl
open Go Go.Proofs
set_option maxRecDepth 100000
theorem Res.Le.trans {α : Type} {a b c : Res α} (h : a.Le b) (k : b.Le c) : a.Le c := by
 rcases h with rfl | rfl
 ·exact .inl rfl
 ·exact k
section
end
end Go.Dl
