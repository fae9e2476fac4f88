/- The data level and the contracts of the functions that are reached (part 11). -/
import Derived.Deep.Slices
import Derived.DeepKeys4
import Derived.LaidLaws
import Derived.Stop.LaidErr
import Derived.Shelf.Vars
import Derived.Test.YtfekogpdmjbdkaaGreatDoorRows
import Derived.Test.YtfekogpdmjbdkaaGreatDoorPtj
set_option linter.unusedSimpArgs false
set_option linter.unusedVariables false
set_option linter.unusedSectionVars false
namespace Go.Dl
section
variable {H H' : DHeap}
@[go_sem] theorem keepAt_vptr (cs : List DVal) (o : Nat) : keepAt H H' (.vptr cs o) = True := rfl
@[go_sem] theorem keepAt_vslice (cs : List DVal) (o : Nat) : keepAt H H' (.vslice cs o) = True := rfl
@[go_sem] theorem keepAt_int (k : IntKind) (n : Int) : keepAt H H' (.int k n) = True := rfl
@[go_sem] theorem keepAt_bool (b : Bool) : keepAt H H' (.bool b) = True := rfl
@[go_sem] theorem keepAt_nilSlice : keepAt H H' .nilSlice = True := rfl
@[go_sem] theorem keepAt_str (s : List UInt8) : keepAt H H' (.str s) = True := rfl
end
end Go.Dl
-- Chapter 3: the reading of expressions: data that hold data of their own kind.
namespace Go.Dl
open Go Go.RowKit Go.Deep Go.Proofs Go.Proofs.YtfekogpdmjbdkaaGreatDoor
set_option maxRecDepth 100000
section
variable {P : Program} {H : Type} {w : World}
def ReadsN (N : Nat) (P : Program) (H : Type) (w : World) (t : TypeId) (α : Type) (f : α → List DVal) (g : α → DataW H → Prop) : Prop :=
 ∀ (enc : TypeId × Value → H) base sp held fuel cs d ps, DataW.trod enc P w base sp held fuel t cs = some (d, ps) → Rows.uptoBulk d ≤ N → ∃ x, g x d ∧ RelL w (fun _ => none) (f x) cs
def ReadsFsN (N : Nat) (P : Program) (H : Type) (w : World) (fs : List Field) (off total : Nat) (α : Type) (f : α → List DVal) (g : α → List (DataW H) → Prop) : Prop :=
 ∀ (enc : TypeId × Value → H) base sp held fuel (cs : List Value) xs, cs.length = total → (fs.mapM fun fl => DataW.trod enc P w base sp held fuel fl.type ((cs.drop fl.offset).take (P.cellsOf fl.type))) = some xs → (∀ x ∈ xs, Rows.uptoBulk x.1 ≤ N) → ∃ x, g x (xs.map (·.1)) ∧ RelL w (fun _ => none) (f x) (cs.drop off)
theorem Reads.n {t : TypeId} {α : Type} {f : α → List DVal} {g : α → DataW H → Prop} (h : Reads P H w t α f g) (N : Nat) : ReadsN N P H w t α f g := fun enc base sp held fuel cs d ps hh _ => h enc base sp held fuel cs d ps hh
theorem reads_all {t : TypeId} {α : Type} {f : α → List DVal} {g : α → DataW H → Prop} (h : ∀ N, ReadsN N P H w t α f g) : Reads P H w t α f g := fun enc base sp held fuel cs d ps hh => h _ enc base sp held fuel cs d ps hh (Nat.le_refl _)
theorem ReadsN.less {N M : Nat} {t : TypeId} {α : Type} {f : α → List DVal} {g : α → DataW H → Prop} (h : ReadsN N P H w t α f g) (hm : M ≤ N) : ReadsN M P H w t α f g := fun enc base sp held fuel cs d ps hh hb => h enc base sp held fuel cs d ps hh (by omega)
theorem bulk_mem {l : List (DataW H)} {d : DataW H} (h : d ∈ l) : Rows.uptoBulk d ≤ Rows.uptoBulkAll l := by
 induction l with
 | nil => cases h
 | cons x l ih =>
  rw [Rows.uptoBulkAll];rcases List.mem_cons.1 h with rfl | h
  ·omega
  ·have := ih h; omega
theorem readsN_slice {N : Nat} {t e : TypeId} {α : Type} {f : α → List DVal} {g : α → DataW H → Prop} (ht : P.underlying t = some (.slice e)) (he : ReadsN N P H w e α f g) :
  ReadsN N P H w t (List α) (fun xs => [.vslice (xs.flatMap f) xs.length]) (SlG g) := by
 intro enc base sp held fuel cs d ps h hbulk;rcases open_slice ht h with ⟨rfl, hx⟩ | ⟨a, len, cap, m, n, D, Pl, rfl, hb, hl, hm, hmm, hx, hall⟩
 ·cases hx;exact ⟨[], .inl ⟨rfl, rfl⟩, by simp [RelL, Rel]⟩
 ·have hlm : len ≤ m := by rw [hmm]; split <;> omega
  simp only [Prod.mk.injEq] at hx;obtain ⟨rfl, rfl⟩ := hx;have hbk : ∀ k, k < len → Rows.uptoBulk (D k) ≤ N := fun k hk => by
   have := bulk_mem (l := (List.range len).map D) (List.mem_map.2 ⟨k, List.mem_range.2 hk, rfl⟩);rw [Rows.uptoBulk] at hbulk; omega
  have key : ∀ k, k ≤ len → ∃ (xs : List α) (ys : List Value), xs.length = k ∧ AllG g xs ((List.range k).map D) ∧ ys.length = k * P.cellsOf e ∧ Holds w a.block a.off ys ∧ RelL w (fun _ => none) (xs.flatMap f) ys := by
   intro k
   induction k with
   | zero => intro _; exact ⟨[], [], rfl, trivial, by simp, fun i x hx => by simp at hx, by simp [RelL]⟩
   | succ k ih =>
    intro hk;obtain ⟨xs, ys, h1, h2, h3, h4, h5⟩ := ih (by omega);obtain ⟨cs', g1, g2⟩ := hall k (by omega);obtain ⟨x, hg, hr⟩ := he _ _ _ _ _ _ _ _ g2 (hbk k (by omega));obtain ⟨c1, c2⟩ := cells_holds g1;refine ⟨xs ++ [x], ys ++ cs', by simp [h1], ?_, by simp only [List.length_append, h3, c1, Nat.succ_mul], h4.append ?_, ?_⟩
    ·rw [List.range_succ, List.map_append];exact h2.append ⟨hg, trivial⟩
    ·rw [h3];have ha : (a.add (k * P.cellsOf e)).block = a.block ∧ (a.add (k * P.cellsOf e)).off = a.off + k * P.cellsOf e := by
      unfold Addr.add; split
      ·rename_i h0; rw [h0]; exact ⟨rfl, rfl⟩
      ·exact ⟨rfl, rfl⟩
     rw [ha.1, ha.2] at c2;exact c2
    ·rw [List.flatMap_append];simpa using h5.append hr
  obtain ⟨xs, ys, h1, h2, h3, h4, h5⟩ := key len (Nat.le_refl _);refine ⟨xs, .inr ⟨_, _, rfl, by omega, h2⟩, ?_⟩;have hrel : Rel w (fun _ => none) (.vslice (xs.flatMap f) xs.length) (.slice (some a) len cap) := by
   simp only [Rel];refine ⟨some a, cap, by rw [h1], by omega, ?_⟩;cases hys : ys with
   | nil => subst hys; left; exact List.eq_nil_of_length_eq_zero (by rw [h5.length]; rfl)
   | cons y yr =>
    right;have h6 := h4 0 y (by rw [hys]; rfl);have hpos : 0 < len ∧ 0 < P.cellsOf e := by
     rw [hys] at h3;simp only [List.length_cons] at h3;constructor
     ·rcases Nat.eq_zero_or_pos len with h0 | h0
      ·subst h0; simp at h3
      ·exact h0
     ·rcases Nat.eq_zero_or_pos (P.cellsOf e) with h0 | h0
      ·rw [h0] at h3; simp at h3
      ·exact h0
    have hsp : a.spot = none := by
     obtain ⟨cs', g1, g2⟩ := hall 0 (by omega);unfold World.cells? at g1;split at g1
     ·obtain ⟨_, m2⟩ := mapM_get g1;obtain ⟨z, _, hz⟩ := m2 0 0 (by simp [hpos.2]);have : (a.add (0 * P.cellsOf e)).add 0 = a := by simp [Addr.add]
      rw [this] at hz;exact cell_spot hz
     ·cases g1
    refine ⟨a.block, a.off, y :: yr, by cases a; simp at hsp ⊢; exact hsp, .inr ⟨rfl, hys ▸ h4⟩, hys ▸ h5⟩
  simp only [RelL];exact ⟨_, _, rfl, hrel, rfl⟩
theorem readsFsN_nil (N n : Nat) : ReadsFsN N P H w [] n n Unit (fun _ => []) (fun _ ds => ds = []) := fun enc base sp held fuel cs xs hl h _ => readsFs_nil n enc base sp held fuel cs xs hl h
theorem readsFsN_cons {N : Nat} {fl : Field} {fs : List Field} {off total n : Nat} {α β : Type} {f : α → List DVal} {g : α → DataW H → Prop} {f' : β → List DVal} {g' : β → List (DataW H) → Prop} (h1 : ReadsN N P H w fl.type α f g) (ho : fl.offset = off) (hn : P.cellsOf fl.type = n)
  (h2 : ReadsFsN N P H w fs (off + n) total β f' g') : ReadsFsN N P H w (fl :: fs) off total (α × β) (fun x => f x.1 ++ f' x.2) (fun x ds => ∃ d ds', ds = d :: ds' ∧ g x.1 d ∧ g' x.2 ds') := by
 intro enc base sp held fuel cs xs hl h hb;rw [List.mapM_cons] at h;simp only [Option.bind_eq_bind, Option.bind_eq_some_iff, Option.pure_def, Option.some.injEq] at h;obtain ⟨y, hy, ys, hys, rfl⟩ := h;obtain ⟨x1, g1, r1⟩ := h1 enc base sp held fuel _ y.1 y.2 hy (hb y (by simp));obtain ⟨x2, g2, r2⟩ := h2 enc base sp held fuel cs ys hl hys fun x hx => hb x (by simp [hx]);refine ⟨(x1, x2), ⟨y.1, ys.map (·.1), by simp, g1, g2⟩, ?_⟩;rw [ho, hn] at r1;have : cs.drop off = (cs.drop off).take n ++ cs.drop (off + n) := by
  rw [← List.drop_drop, List.take_append_drop]
 rw [this];exact r1.append r2
theorem readsN_struct {N : Nat} {t : TypeId} {fs : List Field} {α : Type} {f : α → List DVal} {g : α → List (DataW H) → Prop} (ht : P.underlying t = some (.struct fs.toArray)) (h : ReadsFsN N P H w fs 0 (P.cellsOf t) α f g) :
  ReadsN (N + 1) P H w t α f (fun x d => ∃ ds, d = .agg ds ∧ g x ds) := by
 intro enc base sp held fuel cs d ps hh hbulk;cases fuel with
 | zero => simp [DataW.trod] at hh
 | succ fuel =>
  unfold DataW.trod at hh;rw [ht] at hh;dsimp only at hh;split at hh
  ·rename_i hl
   simp only [Option.map_eq_some_iff, Prod.mk.injEq] at hh;obtain ⟨xs, hx, rfl, rfl⟩ := hh;obtain ⟨x, g1, r1⟩ := h enc base sp held fuel cs xs hl hx fun y hy => by
    have := bulk_mem (l := xs.map (·.1)) (List.mem_map.2 ⟨y, hy, rfl⟩);rw [Rows.uptoBulk] at hbulk; omega
   exact ⟨x, ⟨_, rfl, g1⟩, by simpa using r1⟩
  ·cases hh
theorem ReadsN.map {N : Nat} {t : TypeId} {α β : Type} {f : α → List DVal} {g : α → DataW H → Prop} (h : ReadsN N P H w t α f g) {f' : β → List DVal} {g' : β → DataW H → Prop} (c : ∀ x d, g x d → ∃ y, f' y = f x ∧ g' y d) : ReadsN N P H w t β f' g' := by
 intro enc base sp held fuel cs d ps hh hb;obtain ⟨x, g1, r1⟩ := h enc base sp held fuel cs d ps hh hb;obtain ⟨y, e, g2⟩ := c x d g1;exact ⟨y, g2, by rw [e]; exact r1⟩
end
section
variable {H : Type} {w : World}
def GE (e : Ex) (d : DataW H) : Prop := bigE e ≤ Rows.uptoBulk d ∧ okE e
def GA (a : As) (d : DataW H) : Prop := bigA a ≤ Rows.uptoBulk d ∧ okA a
def GC (c : Ch) (d : DataW H) : Prop := bigC c ≤ Rows.uptoBulk d ∧ okC c
theorem allGE : ∀ {l : List Ex} {ds : List (DataW H)}, AllG GE l ds → bigL l ≤ Rows.uptoBulkAll ds ∧ okL l
 | [], [], _ => ⟨Nat.le_refl _, trivial⟩
 | [], _ :: _, h => h.elim
 | _ :: _, [], h => h.elim
 | x :: l, d :: ds, h => by
  obtain ⟨a, b⟩ := allGE h.2;have := h.1.1;rw [bigL, Rows.uptoBulkAll, okL];exact ⟨by omega, h.1.2, b⟩
theorem allGA : ∀ {l : List As} {ds : List (DataW H)}, AllG GA l ds → bigAs l ≤ Rows.uptoBulkAll ds ∧ okAs l
 | [], [], _ => ⟨Nat.le_refl _, trivial⟩
 | [], _ :: _, h => h.elim
 | _ :: _, [], h => h.elim
 | x :: l, d :: ds, h => by
  obtain ⟨a, b⟩ := allGA h.2;have := h.1.1;rw [bigAs, Rows.uptoBulkAll, okAs];exact ⟨by omega, h.1.2, b⟩
theorem allGC : ∀ {l : List Ch} {ds : List (DataW H)}, AllG GC l ds → bigCs l ≤ Rows.uptoBulkAll ds ∧ okCs l
 | [], [], _ => ⟨Nat.le_refl _, trivial⟩
 | [], _ :: _, h => h.elim
 | _ :: _, [], h => h.elim
 | x :: l, d :: ds, h => by
  obtain ⟨a, b⟩ := allGC h.2;have := h.1.1;rw [bigCs, Rows.uptoBulkAll, okCs];exact ⟨by omega, h.1.2, b⟩
theorem slGE {l : List Ex} {d : DataW H} (h : SlG GE l d) : bigL l + 1 ≤ Rows.uptoBulk d ∧ okL l := by
 rcases h with ⟨rfl, rfl⟩ | ⟨es, sp, rfl, _, h⟩
 ·exact ⟨by simp [bigL, Rows.uptoBulk], trivial⟩
 ·have := allGE h;exact ⟨by rw [Rows.uptoBulk]; omega, this.2⟩
theorem slGA {l : List As} {d : DataW H} (h : SlG GA l d) : bigAs l + 1 ≤ Rows.uptoBulk d ∧ okAs l := by
 rcases h with ⟨rfl, rfl⟩ | ⟨es, sp, rfl, _, h⟩
 ·exact ⟨by simp [bigAs, Rows.uptoBulk], trivial⟩
 ·have := allGA h;exact ⟨by rw [Rows.uptoBulk]; omega, this.2⟩
theorem slGC {l : List Ch} {d : DataW H} (h : SlG GC l d) : bigCs l + 1 ≤ Rows.uptoBulk d ∧ okCs l := by
 rcases h with ⟨rfl, rfl⟩ | ⟨es, sp, rfl, _, h⟩
 ·exact ⟨by simp [bigCs, Rows.uptoBulk], trivial⟩
 ·have := allGC h;exact ⟨by rw [Rows.uptoBulk]; omega, this.2⟩
theorem readsN_ch {N : Nat} (he : ReadsN N Tryz.prog H w 27 Ex dEx GE) : ReadsN N Tryz.prog H w 71 Ch dCh GC := by
 have h := readsN_struct (N := N) (H := H) (w := w) Tryz.underlying71 (readsFsN_cons (n := 1) ((reads_int Tryz.underlying69).n N) rfl (by kernel_rfl) (readsFsN_cons (n := 1) (readsN_slice Tryz.underlying24 he) rfl (by kernel_rfl) (by
   rw [show Tryz.prog.cellsOf 71 = 0 + 1 + 1 by kernel_rfl];exact readsFsN_nil _ _)))
 refine (h.less (Nat.le_succ N)).map fun x d hg => ⟨.mk x.1 x.2.1, ?_, ?_⟩
 ·rw [dCh_eq]; rfl
 ·obtain ⟨ds, rfl, d0, ds0, rfl, g0, d1, ds1, rfl, g1, _⟩ := hg;have := slGE g1;exact ⟨by rw [bigC, Rows.uptoBulk, Rows.uptoBulkAll, Rows.uptoBulkAll]; omega, by rw [okC]; exact this.2⟩
theorem readsN_as {N : Nat} (he : ReadsN N Tryz.prog H w 27 Ex dEx GE) : ReadsN N Tryz.prog H w 47 As dAs GA := by
 have h := readsN_struct (N := N) (H := H) (w := w) Tryz.underlying47 (readsFsN_cons (n := 1) (readsN_slice Tryz.underlying40 (readsN_ch he)) rfl (by kernel_rfl) (readsFsN_cons (n := 9) he rfl (by kernel_rfl) (by
   rw [show Tryz.prog.cellsOf 47 = 0 + 1 + 9 by kernel_rfl];exact readsFsN_nil _ _)))
 refine (h.less (Nat.le_succ N)).map fun x d hg => ⟨.mk x.1 x.2.1, ?_, ?_⟩
 ·rw [dAs_mk1]; simp
 ·obtain ⟨ds, rfl, d0, ds0, rfl, g0, d1, ds1, rfl, g1, _⟩ := hg;have := slGC g0;have := g1.1;exact ⟨by rw [bigA, Rows.uptoBulk, Rows.uptoBulkAll, Rows.uptoBulkAll]; omega, by rw [okA]; exact ⟨(slGC g0).2, g1.2⟩⟩
theorem readsN_ex : ∀ N, ReadsN N Tryz.prog H w 27 Ex dEx GE
 | 0 => fun enc base sp held fuel cs d ps _ hb => by have := bulk_one d; omega
 | N + 1 => by
  have he := readsN_ex N;have h := readsN_struct (N := N) (H := H) (w := w) Tryz.underlying27 (readsFsN_cons (n := 1) ((reads_int Tryz.underlying22).n N) rfl (by kernel_rfl) (readsFsN_cons (n := 1) ((reads_int Tryz.underlying23).n N) rfl (by kernel_rfl)
   (readsFsN_cons (n := 1) ((reads_int Tryz.underlying2).n N) rfl (by kernel_rfl) (readsFsN_cons (n := 1) ((reads_string Tryz.underlying9).n N) rfl (by kernel_rfl)
   (readsFsN_cons (n := 1) (readsN_slice Tryz.underlying24 he) rfl (by kernel_rfl) (readsFsN_cons (n := 1) (readsN_slice Tryz.underlying25 (readsN_as he)) rfl (by kernel_rfl)
   (readsFsN_cons (n := 1) ((reads_int Tryz.underlying3).n N) rfl (by kernel_rfl) (readsFsN_cons (n := 1) ((reads_int Tryz.underlying3).n N) rfl (by kernel_rfl) (readsFsN_cons (n := 1) ((reads_int Tryz.underlying3).n N) rfl (by kernel_rfl) (by
   rw [show Tryz.prog.cellsOf 27 = 0 + 1 + 1 + 1 + 1 + 1 + 1 + 1 + 1 + 1 by kernel_rfl];exact readsFsN_nil _ _))))))))))
  refine h.map fun x d hg => ⟨.mk x.1 x.2.1 x.2.2.1 x.2.2.2.1 x.2.2.2.2.1 x.2.2.2.2.2.1 x.2.2.2.2.2.2.1 x.2.2.2.2.2.2.2.1 x.2.2.2.2.2.2.2.2.1, ?_, ?_⟩
  ·rw [dEx_mk]; rfl
  ·obtain ⟨ds, rfl, d0, ds0, rfl, g0, d1, ds1, rfl, g1, d2, ds2, rfl, g2, d3, ds3, rfl, g3, d4, ds4, rfl, g4, d5, ds5, rfl, g5, _⟩ := hg;have h4 := slGE g4;have h5 := slGA g5;have h3 := g3.1;unfold maxLen at h3;exact ⟨by rw [bigE, Rows.uptoBulk]; simp only [Rows.uptoBulkAll]; omega, by rw [okE]; exact ⟨h3, h4.2, h5.2⟩⟩
theorem reads_ex : Reads Tryz.prog H w 27 Ex dEx GE := reads_all readsN_ex
theorem reads_ass : Reads Tryz.prog H w 25 (List As) (fun l => [dAl l]) (SlG GA) := reads_slice Tryz.underlying25 (reads_all fun N => readsN_as (readsN_ex N))
theorem reads_chs : Reads Tryz.prog H w 40 (List Ch) (fun l => [dCl l]) (SlG GC) := reads_slice Tryz.underlying40 (reads_all fun N => readsN_ch (readsN_ex N))
structure Lsts where
 a : List As
 c : List Ch
def dLsts (x : Lsts) : List DVal := [dAl x.a, dCl x.c]
theorem reads_lsts : Reads Tryz.prog H w 42 Lsts dLsts (fun x d => bigAs x.a + bigCs x.c ≤ Rows.uptoBulk d ∧ okAs x.a ∧ okCs x.c) := by
 have h := reads_struct (H := H) (w := w) Tryz.underlying42 (readsFs_cons (n := 1) reads_ass rfl (by kernel_rfl) (readsFs_cons (n := 1) reads_chs rfl (by kernel_rfl) (by
   rw [show Tryz.prog.cellsOf 42 = 0 + 1 + 1 by kernel_rfl];exact readsFs_nil _)))
 refine h.map fun x d hg => ⟨⟨x.1, x.2.1⟩, rfl, ?_⟩;obtain ⟨ds, rfl, d0, ds0, rfl, g0, d1, ds1, rfl, g1, _⟩ := hg;have h0 := slGA g0;have h1 := slGC g1;exact ⟨by rw [Rows.uptoBulk]; simp only [Rows.uptoBulkAll]; omega, h0.2, h1.2⟩
end
end Go.Dl

-- THE READING, PART G: the package's variables that a row lists ('laid'), as the data level sees them.
namespace Go.Dl
open Go Go.RowKit
def litsB : DataW Unit → Bool
 | .lit (.bool _) => true
 | .lit (.int _ _) => true
 | .lit (.string _) => true
 | .agg ds => litsBs ds
 | _ => false
where litsBs : List (DataW Unit) → Bool
 | [] => true
 | d :: ds => litsB d && litsBs ds
def litCells : DataW Unit → List Value
 | .lit (.bool b) => [.bool b]
 | .lit (.int k n) => [.int k n]
 | .lit (.string s) => [.string ⟨⟨s⟩⟩]
 | .agg ds => litCellss ds
 | _ => []
where litCellss : List (DataW Unit) → List Value
 | [] => []
 | d :: ds => litCells d ++ litCellss ds
theorem litsBs_iff {ds : List (DataW Unit)} : litsB.litsBs ds = true ↔ ∀ d ∈ ds, litsB d = true := by
 induction ds with
 | nil => simp [litsB.litsBs]
 | cons d ds ih => simp [litsB.litsBs, ih]
theorem litCellss_eq (ds : List (DataW Unit)) : litCells.litCellss ds = ds.flatMap litCells := by
 induction ds with
 | nil => rfl
 | cons d ds ih => simp [litCells.litCellss, ih]
theorem pieces {α : Type} (cs : List α) (off size : Nat → Nat) : ∀ (n : Nat), (∀ j, j < n → off (j + 1) = off j + size j) → off 0 = 0 → off n ≤ cs.length → (List.range n).flatMap (fun j => (cs.drop (off j)).take (size j)) = cs.take (off n)
 | 0, _, h0, _ => by simp [h0]
 | n + 1, h, h0, hn => by
  have hs := h n (by omega);rw [List.range_succ, List.flatMap_append, pieces cs off size n (fun j hj => h j (by omega)) h0 (by omega), hs];simp only [List.flatMap_cons, List.flatMap_nil, List.append_nil];rw [List.take_add]
theorem flat_range {α β : Type} (xs : List α) (g : α → List β) (f : Nat → List β) (n : Nat) (hn : xs.length = n) (h : ∀ (j : Nat) (x : α), xs[j]? = some x → f j = g x) : (List.range n).flatMap f = xs.flatMap g := by
 rw [List.flatMap_def, List.flatMap_def];congr 1;apply List.ext_getElem?;intro j;simp only [List.getElem?_map];by_cases hj : j < n
 ·rw [List.getElem?_eq_getElem (by omega : j < xs.length), List.getElem?_range hj];simp only [Option.map_some];rw [h j xs[j] (List.getElem?_eq_getElem (by omega))]
 ·rw [List.getElem?_eq_none (by omega : xs.length ≤ j), List.getElem?_eq_none (by simp; omega)]; rfl
section
variable {P : Program} {w : World}
theorem trod_lits (hl : laidOutB P = true) {base : Nat} {sp : Nat → Bool} : ∀ (fuel : Nat) (t : TypeId) (cs : List Value) (d : DataW Unit) (ps : List MemPlace), isVar P t = true → litsB d = true →
  DataW.trod (fun _ => ()) P w base sp false fuel t cs = some (d, ps) → cs = litCells d
 | 0, _, _, _, _, _, _, h => by simp [DataW.trod] at h
 | fuel + 1, t, cs, d, ps, hv, hd, h => by
  have ih := @trod_lits hl base sp fuel;have hlt : t < P.types.size := by simp only [isVar, Bool.and_eq_true, decide_eq_true_eq] at hv; exact hv.1
  have hrow := rowFine_of_laidOut hl hlt;simp only [rowFine, hv, Bool.not_true, Bool.false_or] at hrow;unfold DataW.trod at h;split at h <;> (try (simp at h; done))
  ·simp only [Option.some.injEq, Prod.mk.injEq] at h; obtain ⟨rfl, rfl⟩ := h; rfl
  ·split at h
   ·rename_i hk
    obtain ⟨rfl, _⟩ := hk;simp only [Option.some.injEq, Prod.mk.injEq] at h; obtain ⟨rfl, rfl⟩ := h; rfl
   ·cases h
  ·split at h
   ·simp only [Option.some.injEq, Prod.mk.injEq] at h; obtain ⟨rfl, rfl⟩ := h; cases hd
   ·cases h
  ·split at h
   ·simp only [Option.some.injEq, Prod.mk.injEq] at h; obtain ⟨rfl, rfl⟩ := h; simp [litCells]
   ·cases h
  ·simp only [Option.some.injEq, Prod.mk.injEq] at h; obtain ⟨rfl, rfl⟩ := h; cases hd
  ·simp only [Option.map_eq_some_iff, Prod.mk.injEq] at h; obtain ⟨_, _, rfl, _⟩ := h; cases hd
  ·simp only [Option.some.injEq, Prod.mk.injEq] at h; obtain ⟨rfl, rfl⟩ := h; cases hd
  ·dsimp only at h;split at h
   ·simp only [Option.bind_eq_some_iff, Option.map_eq_some_iff, Prod.mk.injEq] at h;obtain ⟨_, _, _, _, rfl, _⟩ := h; cases hd
   ·cases h
  ·rename_i cs _ _ fs hu
   rw [hu] at hrow;simp only [Bool.and_eq_true, beq_iff_eq, List.all_eq_true] at hrow;obtain ⟨⟨hf, hsum⟩, hoff⟩ := hrow;split at h
   ·rename_i hcl
    simp only [Option.map_eq_some_iff, Prod.mk.injEq] at h;obtain ⟨xs, hx, rfl, rfl⟩ := h;obtain ⟨hxl, hxg⟩ := mapM_get hx;simp only [litsB, litsBs_iff] at hd;have key : ∀ (j : Nat) (f : Field) (x : DataW Unit × List MemPlace), fs.toList[j]? = some f → xs[j]? = some x → (cs.drop f.offset).take (P.cellsOf f.type) = litCells x.1 := by
     intro j f x hjf hjx;obtain ⟨y, hy, hfy⟩ := hxg j f hjf;rw [hjx] at hy; cases hy;exact ih _ _ x.1 x.2 (hf f (List.mem_of_getElem? hjf)) (hd _ (List.mem_map.2 ⟨x, List.mem_of_getElem? hjx, rfl⟩)) hfy
    have hp := pieces cs (fun j => ((fs.toList.take j).map fun f => P.cellsOf f.type).sum) (fun j => (fs.toList[j]?).elim 0 fun f => P.cellsOf f.type) fs.toList.length (fun j hj => by
     rw [List.take_succ_eq_append_getElem hj]; simp [List.getElem?_eq_getElem hj]) (by simp) (by rw [List.take_length, hcl, hsum]; omega)
    simp only [List.take_length, ← hsum, ← hcl] at hp;rw [← hp];simp only [litCells, litCellss_eq, List.flatMap_map];refine flat_range xs _ _ _ hxl fun j x hjx => ?_;have hjx' : j < xs.length := (List.getElem?_eq_some_iff.1 hjx).1;have hj' : j < fs.toList.length := by omega
    have h1 := hoff j (List.mem_range.2 hj');rw [List.getElem?_eq_getElem hj'] at h1;simp only [beq_iff_eq] at h1;have h2 := key j fs.toList[j] x (List.getElem?_eq_getElem hj') hjx;rw [h1] at h2;simp only [List.getElem?_eq_getElem hj', Option.elim_some];exact h2
   ·cases h
  ·rename_i cs _ _ n e hu
   rw [hu] at hrow;simp only [Bool.and_eq_true, beq_iff_eq] at hrow;obtain ⟨hf, hsum⟩ := hrow;split at h
   ·rename_i hcl
    simp only [Option.map_eq_some_iff, Prod.mk.injEq] at h;obtain ⟨xs, hx, rfl, rfl⟩ := h;obtain ⟨hxl, hxg⟩ := mapM_get hx;rw [List.length_range] at hxl;simp only [litsB, litsBs_iff] at hd;have hp := pieces cs (fun j => j * P.cellsOf e) (fun _ => P.cellsOf e) n (fun j _ => Nat.succ_mul j _) (by simp) (by rw [hcl, hsum]; exact Nat.le_refl _);rw [List.take_of_length_le (by rw [hcl, hsum]; exact Nat.le_refl _)] at hp;rw [← hp];simp only [litCells, litCellss_eq, List.flatMap_map];refine flat_range xs _ _ _ hxl fun j x hjx => ?_;have hjx' : j < xs.length := (List.getElem?_eq_some_iff.1 hjx).1;obtain ⟨y, hy, hfy⟩ := hxg j j (by rw [List.getElem?_range (by omega)]);rw [hjx] at hy; cases hy;exact ih _ _ _ _ hf (hd _ (List.mem_map.2 ⟨x, List.mem_of_getElem? hjx, rfl⟩)) hfy
   ·cases h
  ·simp only [Option.some.injEq, Prod.mk.injEq] at h; obtain ⟨rfl, rfl⟩ := h; cases hd
  ·split at h
   ·rename_i e; cases e
   ·simp only [Option.map_eq_some_iff, Prod.mk.injEq] at h; obtain ⟨_, _, rfl, _⟩ := h; cases hd
   ·cases h
  ·simp only [Option.some.injEq, Prod.mk.injEq] at h; obtain ⟨rfl, rfl⟩ := h; cases hd
  ·split at h
   ·dsimp only at h;split at h
    ·simp only [Option.bind_eq_some_iff] at h;obtain ⟨_, _, h⟩ := h;split at h
     ·simp only [Option.some.injEq, Prod.mk.injEq] at h; obtain ⟨rfl, rfl⟩ := h; cases hd
     ·cases h
    ·cases h
   ·cases h
  ·simp only [Option.some.injEq, Prod.mk.injEq] at h; obtain ⟨rfl, rfl⟩ := h; cases hd
  ·simp only [Option.some.injEq, Prod.mk.injEq] at h; obtain ⟨rfl, rfl⟩ := h; cases hd
  ·simp only [Option.some.injEq, Prod.mk.injEq] at h; obtain ⟨rfl, rfl⟩ := h; cases hd
theorem laid_at : ∀ {laid : List (String × DataW Unit)} {n : String} {d : DataW Unit}, laidMet P laid w → (n, d) ∈ laid →
  ∃ g t cs fuel p, P.globalNamed n = some g ∧ (P.globals[g]?).map (·.type) = some t ∧ w.var? P n = some cs ∧ DataW.trod (fun _ => ()) P w 0 (fun _ => true) false fuel t cs.toList = some (d, p) ∧
   ∀ u v, w.cell? ⟨g, 0, none⟩ = some (.iface u v) → 0 < cs.size → Value.okWide P w .any 0 u v
 | [], _, _, _, hm => by cases hm
 | x :: laid, n, d, h, hm => by
  rcases List.mem_cons.1 hm with rfl | hm
  ·obtain ⟨ps, ⟨g, t, cs, fuel, p, q, h1, h2, h3, h4, h5, h6⟩, _, h8⟩ := h;refine ⟨g, t, cs, fuel, p, h1, h2, h3, h4, fun u v hc hz => (h8 g 0 ?_).2 u v hc⟩;rw [h6];refine List.mem_append_left _ (List.mem_append_left _ ?_);unfold MemPlace.row;exact List.mem_map.2 ⟨0, List.mem_range.2 hz, by simp⟩
  ·exact laid_at h.tail hm
def LitV (v : Value) : Prop := (∃ b, v = .bool b) ∨ (∃ k n, v = .int k n) ∨ ∃ s : List UInt8, v = .string ⟨⟨s⟩⟩
mutual
theorem litv_all : ∀ (d : DataW Unit), litsB d = true → ∀ v ∈ litCells d, LitV v
 | .lit (.bool b), _, v, hv => by simp [litCells] at hv; exact .inl ⟨b, hv⟩
 | .lit (.int k n), _, v, hv => by simp [litCells] at hv; exact .inr (.inl ⟨k, n, hv⟩)
 | .lit (.string s), _, v, hv => by simp [litCells] at hv; exact .inr (.inr ⟨s, hv⟩)
 | .agg ds, h, v, hv => litv_alls ds (by simpa [litsB] using h) v (by simpa [litCells] using hv)
 | .lit (.float _ _), h, _, _ => by cases h
 | .nil, h, _, _ => by cases h
 | .ptr _, h, _, _ => by cases h
 | .slice _ _, h, _, _ => by cases h
 | .iface _ _, h, _, _ => by cases h
 | .map _, h, _, _ => by cases h
 | .held _, h, _, _ => by cases h
theorem litv_alls : ∀ (ds : List (DataW Unit)), litsB.litsBs ds = true → ∀ v ∈ litCells.litCellss ds, LitV v
 | [], _, v, hv => by simp [litCells.litCellss] at hv
 | d :: ds, h, v, hv => by
  simp only [litsB.litsBs, Bool.and_eq_true] at h
  simp only [litCells.litCellss, List.mem_append] at hv
  rcases hv with hv | hv
  ·exact litv_all d h.1 v hv
  ·exact litv_alls ds h.2 v hv
end
theorem litv_rel {Hp : DHeap} : ∀ (d : DataW Unit), litsB d = true → RelL w Hp (ofVals (litCells d)) (litCells d) := by
 have all : ∀ (vs : List Value), (∀ v ∈ vs, (∃ b, v = .bool b) ∨ (∃ k n, v = .int k n) ∨ ∃ s : List UInt8, v = .string ⟨⟨s⟩⟩) → RelL w Hp (ofVals vs) vs := by
  intro vs
  induction vs with
  | nil => intro _; simp [ofVals, RelL]
  | cons v vs ih =>
   intro h;simp only [ofVals, RelL];refine ⟨v, vs, rfl, ?_, ih fun x hx => h x (by simp [hx])⟩;rcases h v (by simp) with ⟨b, rfl⟩ | ⟨k, n, rfl⟩ | ⟨s, rfl⟩ <;> simp [ofVal, Rel]
 exact fun d h => all _ (litv_all d h)
theorem laid_rel {laid : List (String × DataW Unit)} {n : String} {d : DataW Unit} {g : Nat} (hl : laidOutB P = true) (h : laidMet P laid w) (hm : (n, d) ∈ laid) (hd : litsB d = true) (hg : P.globalNamed n = some g)
  (hgt : isVar P (((P.globals[g]?).map (·.type)).getD 0) = true) : Rel w (fun _ => none) (.vptr (ofVals (litCells d)) 0) (.pointer (some ⟨g, 0, none⟩)) := by
 obtain ⟨g', t, cs, fuel, p, h1, h2, h3, h4, _⟩ := laid_at h hm;rw [hg] at h1; cases h1;rw [h2] at hgt;have hc := trod_lits hl fuel t cs.toList d p hgt hd h4;simp only [Rel];refine ⟨g, 0, cs.toList, rfl, ?_, by rw [hc]; exact litv_rel d hd⟩;refine .inr ⟨rfl, fun i x hx => ?_⟩;have := World.var?_cell hg h3 i;rw [Nat.zero_add, this];simpa using hx
end
end Go.Dl

-- That no place of laid variables stands twice, found in one pass.
namespace Go.Dl
open Go Go.RowKit
def placeBits : List MemPlace → Nat → Bool
 | [], _ => true
 | .cell b off :: l, m => decide (off < 1024) && !(m.testBit (b * 1024 + off)) && placeBits l (m ||| 1 <<< (b * 1024 + off))
 | .map _ :: _, _ => false
theorem bit_lor {m k n : Nat} (h : (m ||| 1 <<< k).testBit n = false) : m.testBit n = false ∧ n ≠ k := by
 rw [Nat.testBit_or, Bool.or_eq_false_iff] at h;refine ⟨h.1, fun e => ?_⟩;subst e;have := h.2;rw [Nat.testBit_shiftLeft] at this;simp at this
theorem placeBits_ok : ∀ (l : List MemPlace) (m : Nat), placeBits l m = true → l.Nodup ∧ ∀ p ∈ l, ∃ b off, p = .cell b off ∧ off < 1024 ∧ m.testBit (b * 1024 + off) = false
 | [], _, _ => ⟨List.nodup_nil, fun p hp => by cases hp⟩
 | .map _ :: _, _, h => by simp [placeBits] at h
 | .cell b off :: l, m, h => by
  simp only [placeBits, Bool.and_eq_true, decide_eq_true_eq, Bool.not_eq_true'] at h;obtain ⟨⟨h1, h2⟩, h3⟩ := h;obtain ⟨k1, k2⟩ := placeBits_ok l _ h3;refine ⟨List.nodup_cons.2 ⟨fun hm => ?_, k1⟩, fun p hp => ?_⟩
  ·obtain ⟨b', off', e, _, h5⟩ := k2 _ hm;cases e;exact (bit_lor h5).2 rfl
  ·rcases List.mem_cons.1 hp with rfl | hp
   ·exact ⟨b, off, rfl, h1, h2⟩
   ·obtain ⟨b', off', e, h4, h5⟩ := k2 _ hp;exact ⟨b', off', e, h4, (bit_lor h5).1⟩
theorem laidMet_fast {P : Program} {w : World} {l : List (String × DataW Unit)} (fuel : Nat) (h : (DataW.laidRun P w fuel (l.map (·.1))).map (·.1) = some l)
  (hr : (DataW.laidRun P w fuel (l.map (·.1))).map (fun x => placeBits x.2 0 && laidRowsB P w x.2) = some true) : laidMet P l w := by
 cases hx : DataW.laidRun P w fuel (l.map (·.1)) with
 | none => simp [hx] at h
 | some x =>
  obtain ⟨l', ps⟩ := x;simp only [hx, Option.map_some, Option.some.injEq] at h hr;subst h;simp only [Bool.and_eq_true] at hr;exact laidMet_of_run fuel hx (decide_eq_true (placeBits_ok _ _ hr.1).1) hr.2
end Go.Dl

-- Chapter 3: the reading of the package's variables; a world in which they hold what their text lays.
namespace Go.Dl
open Go Go.RowKit Go.Proofs Go.Proofs.YtfekogpdmjbdkaaGreatDoor
set_option maxRecDepth 100000
theorem laidOut : laidOutB Tryz.prog = true := by kernel_rfl
theorem laid_exact {P : Program} {w : World} {laid : List (String × DataW Unit)} {n : String} {d : DataW Unit} {g : Nat} (hl : laidOutB P = true) (h : laidMet P laid w) (hm : (n, d) ∈ laid) (hd : litsB d = true) (hg : P.globalNamed n = some g)
  (hgt : isVar P (((P.globals[g]?).map (·.type)).getD 0) = true) : csize w.heap[g]? = some (litCells d).length := by
 obtain ⟨g', t, cs, fuel, p, h1, h2, h3, h4, _⟩ := laid_at h hm;rw [hg] at h1; cases h1;rw [h2] at hgt;have hc := trod_lits hl fuel t cs.toList d p hgt hd h4;unfold World.var? at h3;rw [hg] at h3;simp only [Option.bind_some] at h3;split at h3
 ·rename_i c t' fz ho
  cases h3;rw [ho];simp only [csize, Option.some.injEq];rw [← hc, Array.length_toList]
 ·cases h3
theorem ofVals_length : ∀ l : List Value, (ofVals l).length = l.length
 | [] => rfl
 | _ :: l => by simp [ofVals, ofVals_length l]
theorem e_space : ofVals (litCells Rows.laid_strings_asciiSpace) = Lib.asciiSpaceTab.map fun z => DVal.int .u8 z := by kernel_rfl
section
end
noncomputable def putV (h : Array Obj) (g : Nat) (cs : Array Value) : Array Obj := h.modify g fun
 | .cells _ t frozen => .cells cs t frozen
 | o => o
theorem gx_of {laid : List (String × DataW Unit)} {W : World} (hL : laidMetH Tryz.prog laid W) (hs : W.ShapedOpen Tryz.prog) (hh : (laid.filter fun x => x.2.handleName?.isSome) = [])
  (m5 : ("strings.asciiSpace", Rows.laid_strings_asciiSpace) ∈ laid) : ∃ G, GX G ∧ GOk G W (fun _ => none) := by
 have hL' : laidMet Tryz.prog laid W := by
  unfold laidMetH at hL;rw [hh] at hL;exact hL
 have r5 := laid_rel laidOut hL' m5 (by kernel_rfl) (show Tryz.prog.globalNamed "strings.asciiSpace" = some 0 by kernel_rfl) (by kernel_rfl);have x5 := laid_exact laidOut hL' m5 (by kernel_rfl) (show Tryz.prog.globalNamed "strings.asciiSpace" = some 0 by kernel_rfl) (by kernel_rfl);refine ⟨fun g => if g = 0 then .vptr (ofVals (litCells Rows.laid_strings_asciiSpace)) 0 else .optr g 0, ⟨by simp [e_space]⟩, ⟨fun g => ?_, fun g cs e => ?_⟩⟩
 ·show Rel W _ (if g = _ then _ else _) _;split
  ·rename_i e; subst e; exact r5
  ·simp [Rel]
 ·change (if g = _ then _ else _) = _ at e;split at e
  ·rename_i e'; subst e'; cases e; rw [x5, ofVals_length]
  ·cases e
noncomputable def world03 (os : Os) : World :=
 let N := (World.settled Tryz.prog os).heap.size
 let w0 := World.holding Tryz.prog os ⟨#[.cells #[.slice (some ⟨N + 1, 0, none⟩) 7 7, .slice none 0 0, .int .i64 2] 194,
  .cells (#[9, 13, 1, 32, 133, 101, 160, 5760, 5600, 8192, 8202, 1, 8232, 8233, 1, 8239, 8287, 48, 12288, 12288, 1].map (Value.int .u16)) 197], #[], []⟩
 let h9 := putV w0.heap 0 (litCells Rows.laid_strings_asciiSpace).toArray
 let ha := putV h9 1 #[.pointer (some ⟨N, 0, none⟩)]
 { w0 with heap := ha }
def zExpr : Array Value := #[.int .u8 0, .int .u8 0, .int .i64 0, .string ⟨#[]⟩, .slice none 0 0, .slice none 0 0, .int .i64 0, .int .i64 0, .int .i64 0]
def zExprD {H : Type} : List (DataW H) := [.lit (.int .u8 0), .lit (.int .u8 0), .lit (.int .i64 0), .lit (.string []), .nil, .nil, .lit (.int .i64 0), .lit (.int .i64 0), .lit (.int .i64 0)]
section
end
end Go.Dl

-- Chapter 3: the reference's tokens: words, joining, operators.
namespace Go.Dl
open Go Go.Proofs
set_option maxRecDepth 100000
def sTok (s : List UInt8) : Tok := ⟨4, 0, s, 0⟩
def kTok (s : List UInt8) : Tok := ⟨2, 0, s, 0⟩
section
variable {G : Nat → DVal} {H : DHeap}
theorem wsym_spec (G : Nat → DVal) (H : DHeap) (s : List UInt8) : DCalls Tryz.prog G 139 [.str s] H (DRet (.agg (dTok (sTok s))) H) := by
 refine dcalls_intro Tryz.func139 Tryz.call139 rfl (by kernel_rfl) ?_;simp (disch := omega) only [go_sem];intro r hr; dsimp only at hr;simp (disch := omega) only [go_sem];exact DFin.sub ((Sub.refl H).new hr _) (.refl ⟨rfl, rfl⟩)
theorem wkey_spec (G : Nat → DVal) (H : DHeap) (s : List UInt8) : DCalls Tryz.prog G 136 [.str s] H (DRet (.agg (dTok (kTok s))) H) := by
 refine dcalls_intro Tryz.func136 Tryz.call136 rfl (by kernel_rfl) ?_;simp (disch := omega) only [go_sem];intro r hr; dsimp only at hr;simp (disch := omega) only [go_sem];exact DFin.sub ((Sub.refl H).new hr _) (.refl ⟨rfl, rfl⟩)
theorem wnm_spec (G : Nat → DVal) (H : DHeap) (s : List UInt8) : DCalls Tryz.prog G 137 [.str s] H (DRet (.agg (dTok (nmTok s))) H) := by
 refine dcalls_intro Tryz.func137 Tryz.call137 rfl (by kernel_rfl) ?_;simp (disch := omega) only [go_sem];intro r hr; dsimp only at hr;simp (disch := omega) only [go_sem];exact DFin.sub ((Sub.refl H).new hr _) (.refl ⟨rfl, rfl⟩)
theorem wone_spec (G : Nat → DVal) (H : DHeap) (v : DVal) : DCalls Tryz.prog G 135 [v] H (DRet v H) := by
 refine dcalls_intro Tryz.func135 Tryz.call135 rfl (by kernel_rfl) ?_;simp (disch := omega) only [go_sem];exact DFin.refl ⟨rfl, rfl⟩
theorem one1 (G : Nat → DVal) (H : DHeap) (t : Tok) {q : Nat} (hq : H q = none) : DCalls Tryz.prog G 135 [.oslice 4 q 0 1 1] (upd H q (some (.cells (dTok t) 52))) (DRet (dToks [t]) H) := by
 refine DCalls.fzA q hq ?_;have e : fzs q (dTok t) [.oslice 4 q 0 1 1] = [dToks [t]] := by simp [fzs, fz, dToks, dTok]
 rw [e];exact wone_spec G H _
theorem one2 (G : Nat → DVal) (H : DHeap) (t u : Tok) {q : Nat} (hq : H q = none) : DCalls Tryz.prog G 135 [.oslice 4 q 0 2 2] (upd H q (some (.cells (dTok t ++ dTok u) 52))) (DRet (dToks [t, u]) H) := by
 refine DCalls.fzA q hq ?_;have e : fzs q (dTok t ++ dTok u) [.oslice 4 q 0 2 2] = [dToks [t, u]] := by simp [fzs, fz, dToks, dTok]
 rw [e];exact wone_spec G H _
def dTss (tss : List (List Tok)) : DVal := .vslice (tss.map dToks) tss.length
set_option maxHeartbeats 4000000 in
theorem join_own (G : Nat → DVal) (H : DHeap) (tss : List (List Tok)) (hn : tss.length ≤ 1000000) (hl : (tss.flatten).length ≤ 100000000) : DCalls Tryz.prog G 138 [dTss tss] H (fun e H' => ∃ v, e = .ret v ∧ OwnJ H 52 4 (tss.flatten).length ((tss.flatten).flatMap dTok) v H') := by
 refine dcalls_intro Tryz.func138 Tryz.call138 rfl (by kernel_rfl) ?_;simp (disch := omega) only [go_sem];obtain ⟨I, hI⟩ : ∃ I : Nat → (Nat → DVal) → DHeap → Prop, ∀ j env heap, I j env heap ↔ (env 0 = dTss tss ∧ env 4 = dI j ∧ j ≤ tss.length ∧ OwnJ H 52 4 ((tss.take j).flatten).length (((tss.take j).flatten).flatMap dTok) (env 3) heap) := ⟨_, fun _ _ _ => Iff.rfl⟩;refine DLoop.run I (fun j => tss.length - j) 0 ((hI _ _ _).2 ?_) ?_
 ·simp (disch := omega) only [go_sem];(repeat' apply And.intro) <;> (try first | rfl | assumption | omega);exact OwnJ.nil _ _ (Sub.refl H)
 ·intro j env heap hi;obtain ⟨e0, e4, hj, hv⟩ := (hI _ _ _).1 hi;by_cases hlt : j < tss.length
  ·have hlt' : (j : Int) < (tss.length : Int) := by omega
   have hw1 : IntKind.i64.wrap ((j : Int) + 1) = ((j + 1 : Nat) : Int) := by rw [IntKind.wrap_i64]; omega
   have hget : (tss.map dToks)[j]? = some (dToks tss[j]) := by rw [List.getElem?_map, List.getElem?_eq_getElem hlt]; rfl
   have hml : (tss.map dToks).length = tss.length := List.length_map _;have htk : (tss.take (j + 1)).flatten = (tss.take j).flatten ++ tss[j] := by rw [take_snoc hlt, List.flatten_append]; simp
   have hle : ((tss.take (j + 1)).flatten).length ≤ (tss.flatten).length := by
    conv => rhs; rw [← List.take_append_drop (j + 1) tss, List.flatten_append, List.length_append]
    omega
   obtain ⟨ts, hts⟩ : ∃ ts, ts = tss[j] := ⟨_, rfl⟩;rw [← hts] at hget htk;rw [htk, List.length_append] at hle;have hnl := flat_len dTok_len ts;have hft : (ts.flatMap dTok).take (ts.length * 4) = ts.flatMap dTok := List.take_of_length_le (by omega);obtain ⟨v, hve⟩ : ∃ v, v = env 3 := ⟨_, rfl⟩;rw [← hve] at hv;have hone : (ts.flatMap dTok).all (fun d => d.one) = true := by
    rw [List.all_eq_true];intro d hd;obtain ⟨t, _, hd⟩ := List.mem_flatMap.1 hd;exact List.all_eq_true.1 (dTok_one t) d hd
   simp (disch := omega) only [go_sem, e0, e4, ← hve, hlt', dTss, hget, hml, Int.toNat_natCast, dToks, hft, hone, hnl];refine OwnJ.append (m := ts.length) hv hnl (by omega) fun v2 H2 hv2 => ?_;simp (disch := omega) only [go_sem, e0, e4];refine ⟨j + 1, _, GhostS.refl _, (hI _ _ _).2 ?_, by omega⟩;simp (disch := omega) only [go_sem, e0, e4, hw1];(repeat' apply And.intro) <;> (try first | rfl | assumption | omega);rw [htk, List.length_append, List.flatMap_append];exact hv2
  ·have : j = tss.length := by omega
   subst this;have hlt' : ¬ (tss.length : Int) < (tss.length : Int) := by omega
   rw [List.take_length] at hv;simp (disch := omega) only [go_sem, e0, e4, hlt', dTss];exact DFin.refl ⟨_, rfl, hv⟩
theorem joinF (G : Nat → DVal) (H : DHeap) (tss : List (List Tok)) (hn : tss.length ≤ 1000000) (hl : (tss.flatten).length ≤ 100000000) : DCalls Tryz.prog G 138 [dTss tss] H (DRet (dToks tss.flatten) H) := (join_own G H tss hn hl).frozenJ
theorem joinL' (G : Nat → DVal) (H : DHeap) (tss : List (List Tok)) {q n : Nat} (hq : H q = none) (hn : tss.length = n) (hn2 : n ≤ 1000000) (hl : (tss.flatten).length ≤ 100000000) : DCalls Tryz.prog G 138 [.oslice 1 q 0 n n] (upd H q (some (.cells (tss.map dToks) 28))) (DRet (dToks tss.flatten) H) := by
 subst hn;refine DCalls.fzA q hq ?_;have e : fzs q (tss.map dToks) [.oslice 1 q 0 tss.length tss.length] = [dTss tss] := by
  simp only [fzs, fz, if_pos, List.drop_zero, Nat.mul_one, dTss];rw [List.take_of_length_le (by simp)]
 rw [e];exact joinF G H tss hn2 hl
end
end Go.Dl

-- Chapter 3: the reference's Words (printed by gen_w7.py).
namespace Go.Dl
open Go Go.Proofs
set_option maxRecDepth 100000
section
variable {G : Nat → DVal} {H0 H : DHeap}
set_option maxHeartbeats 4000000 in
theorem rwords_spec (G : Nat → DVal) (H : DHeap) (o : Nat) (ho : o < 22) : DCalls Tryz.prog G 34 [.int .u8 o] H (DRet (dW (wordsN o)) H) := by
 refine dcalls_intro Tryz.func34 Tryz.call34 rfl (by kernel_rfl) ?_;simp (disch := omega) only [go_sem];intro b1 hb1; dsimp only at hb1;obtain ⟨K1, hK1⟩ : ∃ K, K = upd H b1 (some (.cells [.str [43]] 9)) := ⟨_, rfl⟩;rw [← hK1];simp (disch := omega) only [go_sem];intro b2 hb2; dsimp only at hb2;obtain ⟨K2, hK2⟩ : ∃ K, K = upd K1 b2 (some (.cells [.str [45]] 9)) := ⟨_, rfl⟩;rw [← hK2];simp (disch := omega) only [go_sem];intro b3 hb3; dsimp only at hb3;obtain ⟨K3, hK3⟩ : ∃ K, K = upd K2 b3 (some (.cells [.str [42]] 9)) := ⟨_, rfl⟩;rw [← hK3];simp (disch := omega) only [go_sem];intro b4 hb4; dsimp only at hb4;obtain ⟨K4, hK4⟩ : ∃ K, K = upd K3 b4 (some (.cells [.str [47]] 9)) := ⟨_, rfl⟩;rw [← hK4];simp (disch := omega) only [go_sem];intro b5 hb5; dsimp only at hb5;obtain ⟨K5, hK5⟩ : ∃ K, K = upd K4 b5 (some (.cells [.str [109, 111, 100]] 9)) := ⟨_, rfl⟩;rw [← hK5];simp (disch := omega) only [go_sem];intro b6 hb6; dsimp only at hb6;obtain ⟨K6, hK6⟩ : ∃ K, K = upd K5 b6 (some (.cells [.str [114, 101, 109]] 9)) := ⟨_, rfl⟩;rw [← hK6];simp (disch := omega) only [go_sem];intro b7 hb7; dsimp only at hb7;obtain ⟨K7, hK7⟩ : ∃ K, K = upd K6 b7 (some (.cells [.str [61]] 9)) := ⟨_, rfl⟩;rw [← hK7];simp (disch := omega) only [go_sem];intro b8 hb8; dsimp only at hb8;obtain ⟨K8, hK8⟩ : ∃ K, K = upd K7 b8 (some (.cells [.str [47, 61]] 9)) := ⟨_, rfl⟩;rw [← hK8];simp (disch := omega) only [go_sem];intro b9 hb9; dsimp only at hb9;obtain ⟨K9, hK9⟩ : ∃ K, K = upd K8 b9 (some (.cells [.str [60]] 9)) := ⟨_, rfl⟩;rw [← hK9];simp (disch := omega) only [go_sem];intro b10 hb10; dsimp only at hb10;obtain ⟨K10, hK10⟩ : ∃ K, K = upd K9 b10 (some (.cells [.str [60, 61]] 9)) := ⟨_, rfl⟩;rw [← hK10];simp (disch := omega) only [go_sem];intro b11 hb11; dsimp only at hb11;obtain ⟨K11, hK11⟩ : ∃ K, K = upd K10 b11 (some (.cells [.str [62]] 9)) := ⟨_, rfl⟩;rw [← hK11];simp (disch := omega) only [go_sem];intro b12 hb12; dsimp only at hb12;obtain ⟨K12, hK12⟩ : ∃ K, K = upd K11 b12 (some (.cells [.str [62, 61]] 9)) := ⟨_, rfl⟩;rw [← hK12];simp (disch := omega) only [go_sem];intro b13 hb13; dsimp only at hb13;obtain ⟨K13, hK13⟩ : ∃ K, K = upd K12 b13 (some (.cells [.str [97, 110, 100]] 9)) := ⟨_, rfl⟩;rw [← hK13];simp (disch := omega) only [go_sem];intro b14 hb14; dsimp only at hb14;obtain ⟨K14, hK14⟩ : ∃ K, K = upd K13 b14 (some (.cells [.str [111, 114]] 9)) := ⟨_, rfl⟩;rw [← hK14];simp (disch := omega) only [go_sem];intro b15 hb15; dsimp only at hb15;obtain ⟨K15, hK15⟩ : ∃ K, K = upd K14 b15 (some (.cells [.str [120, 111, 114]] 9)) := ⟨_, rfl⟩;rw [← hK15];simp (disch := omega) only [go_sem];intro b16 hb16; dsimp only at hb16;obtain ⟨K16, hK16⟩ : ∃ K, K = upd K15 b16 (some (.cells [.str [97, 110, 100], .str [116, 104, 101, 110]] 9)) := ⟨_, rfl⟩;rw [← hK16];simp (disch := omega) only [go_sem];intro b17 hb17; dsimp only at hb17;obtain ⟨K17, hK17⟩ : ∃ K, K = upd K16 b17 (some (.cells [.str [111, 114], .str [101, 108, 115, 101]] 9)) := ⟨_, rfl⟩;rw [← hK17];simp (disch := omega) only [go_sem];intro b18 hb18; dsimp only at hb18;obtain ⟨K18, hK18⟩ : ∃ K, K = upd K17 b18 (some (.cells [.str [43]] 9)) := ⟨_, rfl⟩;rw [← hK18];simp (disch := omega) only [go_sem];intro b19 hb19; dsimp only at hb19;obtain ⟨K19, hK19⟩ : ∃ K, K = upd K18 b19 (some (.cells [.str [45]] 9)) := ⟨_, rfl⟩;rw [← hK19];simp (disch := omega) only [go_sem];intro b20 hb20; dsimp only at hb20;obtain ⟨K20, hK20⟩ : ∃ K, K = upd K19 b20 (some (.cells [.str [97, 98, 115]] 9)) := ⟨_, rfl⟩;rw [← hK20];simp (disch := omega) only [go_sem];intro b21 hb21; dsimp only at hb21;obtain ⟨K21, hK21⟩ : ∃ K, K = upd K20 b21 (some (.cells [.str [110, 111, 116]] 9)) := ⟨_, rfl⟩;rw [← hK21];simp (disch := omega) only [go_sem];intro b22 hb22; dsimp only at hb22;obtain ⟨K22, hK22⟩ : ∃ K, K = upd K21 b22 (some (.cells [.nilSlice, .oslice 1 b1 0 1 1, .oslice 1 b2 0 1 1, .oslice 1 b3 0 1 1, .oslice 1 b4 0 1 1, .oslice 1 b5 0 1 1, .oslice 1 b6 0 1 1, .oslice 1 b7 0 1 1, .oslice 1 b8 0 1 1, .oslice 1 b9 0 1 1, .oslice 1 b10 0 1 1, .oslice 1 b11 0 1 1, .oslice 1 b12 0 1 1, .oslice 1 b13 0 1 1, .oslice 1 b14 0 1 1, .oslice 1 b15 0 1 1, .oslice 1 b16 0 2 2, .oslice 1 b17 0 2 2, .oslice 1 b18 0 1 1, .oslice 1 b19 0 1 1, .oslice 1 b20 0 1 1, .oslice 1 b21 0 1 1] 58)) := ⟨_, rfl⟩;rw [← hK22];have s1 : Sub H K1 := by rw [hK1]; exact (Sub.refl _).new hb1 _
 have s2 : Sub K1 K2 := by rw [hK2]; exact (Sub.refl _).new hb2 _
 have s3 : Sub K2 K3 := by rw [hK3]; exact (Sub.refl _).new hb3 _
 have s4 : Sub K3 K4 := by rw [hK4]; exact (Sub.refl _).new hb4 _
 have s5 : Sub K4 K5 := by rw [hK5]; exact (Sub.refl _).new hb5 _
 have s6 : Sub K5 K6 := by rw [hK6]; exact (Sub.refl _).new hb6 _
 have s7 : Sub K6 K7 := by rw [hK7]; exact (Sub.refl _).new hb7 _
 have s8 : Sub K7 K8 := by rw [hK8]; exact (Sub.refl _).new hb8 _
 have s9 : Sub K8 K9 := by rw [hK9]; exact (Sub.refl _).new hb9 _
 have s10 : Sub K9 K10 := by rw [hK10]; exact (Sub.refl _).new hb10 _
 have s11 : Sub K10 K11 := by rw [hK11]; exact (Sub.refl _).new hb11 _
 have s12 : Sub K11 K12 := by rw [hK12]; exact (Sub.refl _).new hb12 _
 have s13 : Sub K12 K13 := by rw [hK13]; exact (Sub.refl _).new hb13 _
 have s14 : Sub K13 K14 := by rw [hK14]; exact (Sub.refl _).new hb14 _
 have s15 : Sub K14 K15 := by rw [hK15]; exact (Sub.refl _).new hb15 _
 have s16 : Sub K15 K16 := by rw [hK16]; exact (Sub.refl _).new hb16 _
 have s17 : Sub K16 K17 := by rw [hK17]; exact (Sub.refl _).new hb17 _
 have s18 : Sub K17 K18 := by rw [hK18]; exact (Sub.refl _).new hb18 _
 have s19 : Sub K18 K19 := by rw [hK19]; exact (Sub.refl _).new hb19 _
 have s20 : Sub K19 K20 := by rw [hK20]; exact (Sub.refl _).new hb20 _
 have s21 : Sub K20 K21 := by rw [hK21]; exact (Sub.refl _).new hb21 _
 have s22 : Sub K21 K22 := by rw [hK22]; exact (Sub.refl _).new hb22 _
 have t22 : Sub K22 K22 := Sub.refl _;have t21 : Sub K21 K22 := s22.trans t22;have t20 : Sub K20 K22 := s21.trans t21;have t19 : Sub K19 K22 := s20.trans t20;have t18 : Sub K18 K22 := s19.trans t19;have t17 : Sub K17 K22 := s18.trans t18;have t16 : Sub K16 K22 := s17.trans t17;have t15 : Sub K15 K22 := s16.trans t16;have t14 : Sub K14 K22 := s15.trans t15;have t13 : Sub K13 K22 := s14.trans t14;have t12 : Sub K12 K22 := s13.trans t13;have t11 : Sub K11 K22 := s12.trans t12;have t10 : Sub K10 K22 := s11.trans t11;have t9 : Sub K9 K22 := s10.trans t10;have t8 : Sub K8 K22 := s9.trans t9;have t7 : Sub K7 K22 := s8.trans t8;have t6 : Sub K6 K22 := s7.trans t7;have t5 : Sub K5 K22 := s6.trans t6;have t4 : Sub K4 K22 := s5.trans t5;have t3 : Sub K3 K22 := s4.trans t4;have t2 : Sub K2 K22 := s3.trans t3;have t1 : Sub K1 K22 := s2.trans t2;have t0 : Sub H K22 := s1.trans t1;have u1 : Sub H H := Sub.refl H;have u2 : Sub H K1 := u1.trans s1;have u3 : Sub H K2 := u2.trans s2;have u4 : Sub H K3 := u3.trans s3;have u5 : Sub H K4 := u4.trans s4;have u6 : Sub H K5 := u5.trans s5;have u7 : Sub H K6 := u6.trans s6;have u8 : Sub H K7 := u7.trans s7;have u9 : Sub H K8 := u8.trans s8;have u10 : Sub H K9 := u9.trans s9;have u11 : Sub H K10 := u10.trans s10;have u12 : Sub H K11 := u11.trans s11;have u13 : Sub H K12 := u12.trans s12;have u14 : Sub H K13 := u13.trans s13;have u15 : Sub H K14 := u14.trans s14;have u16 : Sub H K15 := u15.trans s15;have u17 : Sub H K16 := u16.trans s16;have u18 : Sub H K17 := u17.trans s17;have u19 : Sub H K18 := u18.trans s18;have u20 : Sub H K19 := u19.trans s19;have u21 : Sub H K20 := u20.trans s20;have u22 : Sub H K21 := u21.trans s21;have hsT : Sub H K22 := u22.trans s22;have c1 : K22 b1 = some (.cells [.str [43]] 9) := t1 _ _ (by rw [hK1]; exact upd_same _ _ _);have c2 : K22 b2 = some (.cells [.str [45]] 9) := t2 _ _ (by rw [hK2]; exact upd_same _ _ _);have c3 : K22 b3 = some (.cells [.str [42]] 9) := t3 _ _ (by rw [hK3]; exact upd_same _ _ _);have c4 : K22 b4 = some (.cells [.str [47]] 9) := t4 _ _ (by rw [hK4]; exact upd_same _ _ _);have c5 : K22 b5 = some (.cells [.str [109, 111, 100]] 9) := t5 _ _ (by rw [hK5]; exact upd_same _ _ _);have c6 : K22 b6 = some (.cells [.str [114, 101, 109]] 9) := t6 _ _ (by rw [hK6]; exact upd_same _ _ _);have c7 : K22 b7 = some (.cells [.str [61]] 9) := t7 _ _ (by rw [hK7]; exact upd_same _ _ _);have c8 : K22 b8 = some (.cells [.str [47, 61]] 9) := t8 _ _ (by rw [hK8]; exact upd_same _ _ _);have c9 : K22 b9 = some (.cells [.str [60]] 9) := t9 _ _ (by rw [hK9]; exact upd_same _ _ _);have c10 : K22 b10 = some (.cells [.str [60, 61]] 9) := t10 _ _ (by rw [hK10]; exact upd_same _ _ _);have c11 : K22 b11 = some (.cells [.str [62]] 9) := t11 _ _ (by rw [hK11]; exact upd_same _ _ _);have c12 : K22 b12 = some (.cells [.str [62, 61]] 9) := t12 _ _ (by rw [hK12]; exact upd_same _ _ _);have c13 : K22 b13 = some (.cells [.str [97, 110, 100]] 9) := t13 _ _ (by rw [hK13]; exact upd_same _ _ _);have c14 : K22 b14 = some (.cells [.str [111, 114]] 9) := t14 _ _ (by rw [hK14]; exact upd_same _ _ _);have c15 : K22 b15 = some (.cells [.str [120, 111, 114]] 9) := t15 _ _ (by rw [hK15]; exact upd_same _ _ _);have c16 : K22 b16 = some (.cells [.str [97, 110, 100], .str [116, 104, 101, 110]] 9) := t16 _ _ (by rw [hK16]; exact upd_same _ _ _);have c17 : K22 b17 = some (.cells [.str [111, 114], .str [101, 108, 115, 101]] 9) := t17 _ _ (by rw [hK17]; exact upd_same _ _ _);have c18 : K22 b18 = some (.cells [.str [43]] 9) := t18 _ _ (by rw [hK18]; exact upd_same _ _ _);have c19 : K22 b19 = some (.cells [.str [45]] 9) := t19 _ _ (by rw [hK19]; exact upd_same _ _ _);have c20 : K22 b20 = some (.cells [.str [97, 98, 115]] 9) := t20 _ _ (by rw [hK20]; exact upd_same _ _ _);have c21 : K22 b21 = some (.cells [.str [110, 111, 116]] 9) := t21 _ _ (by rw [hK21]; exact upd_same _ _ _);have c22 : K22 b22 = some (.cells [.nilSlice, .oslice 1 b1 0 1 1, .oslice 1 b2 0 1 1, .oslice 1 b3 0 1 1, .oslice 1 b4 0 1 1, .oslice 1 b5 0 1 1, .oslice 1 b6 0 1 1, .oslice 1 b7 0 1 1, .oslice 1 b8 0 1 1, .oslice 1 b9 0 1 1, .oslice 1 b10 0 1 1, .oslice 1 b11 0 1 1, .oslice 1 b12 0 1 1, .oslice 1 b13 0 1 1, .oslice 1 b14 0 1 1, .oslice 1 b15 0 1 1, .oslice 1 b16 0 2 2, .oslice 1 b17 0 2 2, .oslice 1 b18 0 1 1, .oslice 1 b19 0 1 1, .oslice 1 b20 0 1 1, .oslice 1 b21 0 1 1] 58) := t22 _ _ (by rw [hK22]; exact upd_same _ _ _);obtain ⟨cs, hcs⟩ : ∃ cs : List DVal, cs = [.nilSlice, .oslice 1 b1 0 1 1, .oslice 1 b2 0 1 1, .oslice 1 b3 0 1 1, .oslice 1 b4 0 1 1, .oslice 1 b5 0 1 1, .oslice 1 b6 0 1 1, .oslice 1 b7 0 1 1, .oslice 1 b8 0 1 1, .oslice 1 b9 0 1 1, .oslice 1 b10 0 1 1, .oslice 1 b11 0 1 1, .oslice 1 b12 0 1 1, .oslice 1 b13 0 1 1, .oslice 1 b14 0 1 1, .oslice 1 b15 0 1 1, .oslice 1 b16 0 2 2, .oslice 1 b17 0 2 2, .oslice 1 b18 0 1 1, .oslice 1 b19 0 1 1, .oslice 1 b20 0 1 1, .oslice 1 b21 0 1 1] := ⟨_, rfl⟩;rw [← hcs] at c22;have hl : cs.length = 22 := by rw [hcs]; rfl
 obtain ⟨d, hd⟩ : ∃ d, cs[o]? = some d := ⟨_, List.getElem?_eq_getElem (by omega)⟩;have hs : Seen K22 d H (dW (wordsN o)) := by
  rw [hcs] at hd;have hcas : o = 0 ∨ o = 1 ∨ o = 2 ∨ o = 3 ∨ o = 4 ∨ o = 5 ∨ o = 6 ∨ o = 7 ∨ o = 8 ∨ o = 9 ∨ o = 10 ∨ o = 11 ∨ o = 12 ∨ o = 13 ∨ o = 14 ∨ o = 15 ∨ o = 16 ∨ o = 17 ∨ o = 18 ∨ o = 19 ∨ o = 20 ∨ o = 21 := by omega
  rcases hcas with rfl | rfl | rfl | rfl | rfl | rfl | rfl | rfl | rfl | rfl | rfl | rfl | rfl | rfl | rfl | rfl | rfl | rfl | rfl | rfl | rfl | rfl
  ·cases hd; exact Seen.nil hsT
  ·cases hd; exact Seen.block hsT (u1.lo hb1) c1 rfl
  ·cases hd; exact Seen.block hsT (u2.lo hb2) c2 rfl
  ·cases hd; exact Seen.block hsT (u3.lo hb3) c3 rfl
  ·cases hd; exact Seen.block hsT (u4.lo hb4) c4 rfl
  ·cases hd; exact Seen.block hsT (u5.lo hb5) c5 rfl
  ·cases hd; exact Seen.block hsT (u6.lo hb6) c6 rfl
  ·cases hd; exact Seen.block hsT (u7.lo hb7) c7 rfl
  ·cases hd; exact Seen.block hsT (u8.lo hb8) c8 rfl
  ·cases hd; exact Seen.block hsT (u9.lo hb9) c9 rfl
  ·cases hd; exact Seen.block hsT (u10.lo hb10) c10 rfl
  ·cases hd; exact Seen.block hsT (u11.lo hb11) c11 rfl
  ·cases hd; exact Seen.block hsT (u12.lo hb12) c12 rfl
  ·cases hd; exact Seen.block hsT (u13.lo hb13) c13 rfl
  ·cases hd; exact Seen.block hsT (u14.lo hb14) c14 rfl
  ·cases hd; exact Seen.block hsT (u15.lo hb15) c15 rfl
  ·cases hd; exact Seen.block hsT (u16.lo hb16) c16 rfl
  ·cases hd; exact Seen.block hsT (u17.lo hb17) c17 rfl
  ·cases hd; exact Seen.block hsT (u18.lo hb18) c18 rfl
  ·cases hd; exact Seen.block hsT (u19.lo hb19) c19 rfl
  ·cases hd; exact Seen.block hsT (u20.lo hb20) c20 rfl
  ·cases hd; exact Seen.block hsT (u21.lo hb21) c21 rfl
 have h22 : ¬ (22 : Int) ≤ (o : Int) := by omega
 have h22b : (o : Int) < 22 := by omega
 have hwr : IntKind.i64.wrap (o : Int) = (o : Int) := by rw [IntKind.wrap_i64]; omega
 clear s1 s2 s3 s4 s5 s6 s7 s8 s9 s10 s11 s12 s13 s14 s15 s16 s17 s18 s19 s20 s21 s22 t0 t1 t2 t3 t4 t5 t6 t7 t8 t9 t10 t11 t12 t13 t14 t15 t16 t17 t18 t19 t20 t21 t22;simp (disch := omega) only [go_sem, hwr, h22, h22b, c22, hd, Int.toNat_natCast];exact Seen.fin hsT hs ⟨rfl, rfl⟩
end
end Go.Dl

-- Chapter 3: the reference's tokens: operators, levels, parts.
namespace Go.Dl
open Go Go.Proofs
set_option maxRecDepth 100000
section
variable {G : Nat → DVal}
set_option maxHeartbeats 4000000 in
theorem roper_spec (G : Nat → DVal) (H : DHeap) (o : Nat) (ho : o < 22) : DCalls Tryz.prog G 140 [.int .u8 o] H (DRet (dToks ((wordsN o).map wTok)) H) := by
 have hwl := wordsN_len o;suffices hown : DCalls Tryz.prog G 140 [.int .u8 o] H (fun e H' => ∃ v, e = .ret v ∧ OwnJ H 52 4 ((wordsN o).map wTok).length (((wordsN o).map wTok).flatMap dTok) v H') from hown.frozenJ
 refine dcalls_intro Tryz.func140 Tryz.call140 rfl (by kernel_rfl) ?_;simp (disch := omega) only [go_sem];refine (rwords_spec G H o ho).mono ?_;rintro _ K ⟨rfl, rfl⟩;obtain ⟨ws, hws⟩ : ∃ ws, ws = wordsN o := ⟨_, rfl⟩;rw [← hws] at hwl ⊢
 simp (disch := omega) only [go_sem];obtain ⟨I, hI⟩ : ∃ I : Nat → (Nat → DVal) → DHeap → Prop, ∀ j env heap, I j env heap ↔ (env 0 = .int .u8 o ∧ env 4 = dW ws ∧ env 5 = dI j ∧ j ≤ ws.length ∧ OwnJ K 52 4 ((ws.take j).map wTok).length (((ws.take j).map wTok).flatMap dTok) (env 3) heap) := ⟨_, fun _ _ _ => Iff.rfl⟩;refine DLoop.run I (fun j => ws.length - j) 0 ((hI _ _ _).2 ?_) ?_
 ·simp (disch := omega) only [go_sem];(repeat' apply And.intro) <;> (try first | rfl | assumption | omega);exact OwnJ.nil _ _ (Sub.refl K)
 ·intro j env heap hi;obtain ⟨e0, e4, e5, hj, hv⟩ := (hI _ _ _).1 hi;by_cases hlt : j < ws.length
  ·have hlt' : (j : Int) < (ws.length : Int) := by omega
   have hw1 : IntKind.i64.wrap ((j : Int) + 1) = ((j + 1 : Nat) : Int) := by rw [IntKind.wrap_i64]; omega
   have hget : (ws.map DVal.str)[j]? = some (.str ws[j]) := by rw [List.getElem?_map, List.getElem?_eq_getElem hlt]; rfl
   have hml : (ws.map DVal.str).length = ws.length := List.length_map _;have htk : (ws.take (j + 1)).map wTok = (ws.take j).map wTok ++ [wTok ws[j]] := by rw [List.take_add_one, List.getElem?_eq_getElem hlt, Option.toList_some, List.map_append, List.map_singleton]
   obtain ⟨s, hse⟩ : ∃ s, s = ws[j] := ⟨_, rfl⟩;rw [← hse] at hget htk;obtain ⟨v, hve⟩ : ∃ v, v = env 3 := ⟨_, rfl⟩;rw [← hve] at hv;simp (disch := omega) only [go_sem, e0, e4, e5, ← hve, hlt', dW, hget, hml, Int.toNat_natCast];refine (rkey_spec G _ s).mono ?_;rintro _ H1 ⟨rfl, rfl⟩;cases hkb : keyB s with
   | true =>
    have hk : wTok s = kTok s := by rw [wTok, kindW, hkb]; rfl
    simp (disch := omega) only [go_sem, e0, e4, e5, ← hve, dW, hget, hml, Int.toNat_natCast];refine (wkey_spec G _ s).mono ?_;rintro _ H2 ⟨rfl, rfl⟩;simp (disch := omega) only [go_sem, e0, e4, e5];intro r25 hr25; dsimp only at hr25;have hv6 := hv.new hr25 (some (.cells (dTok (wTok s)) 52));simp (disch := omega) only [go_sem, e0, e4, e5, dTok];rw [hk] at hv6;refine OwnJ.append (m := 1) hv6 rfl (by rw [List.length_map, List.length_take]; omega) fun v2 H6 hv2 => ?_;simp (disch := omega) only [go_sem, e0, e4, e5];refine ⟨j + 1, _, GhostS.refl _, (hI _ _ _).2 ?_, by omega⟩;simp (disch := omega) only [go_sem, e0, e4, e5, hw1];(repeat' apply And.intro) <;> (try first | rfl | assumption | omega);rw [htk, dToks_snoc, hk, show (ws.take (j + 1)).length = ((ws.take j).map wTok).length + 1 by rw [List.length_map, List.length_take, List.length_take]; omega];exact hv2
   | false =>
    have hk : wTok s = sTok s := by rw [wTok, kindW, hkb]; rfl
    simp (disch := omega) only [go_sem, e0, e4, e5, ← hve, dW, hget, hml, Int.toNat_natCast];refine (wsym_spec G _ s).mono ?_;rintro _ H2 ⟨rfl, rfl⟩;simp (disch := omega) only [go_sem, e0, e4, e5];intro r25 hr25; dsimp only at hr25;have hv6 := hv.new hr25 (some (.cells (dTok (wTok s)) 52));simp (disch := omega) only [go_sem, e0, e4, e5, dTok];rw [hk] at hv6;refine OwnJ.append (m := 1) hv6 rfl (by rw [List.length_map, List.length_take]; omega) fun v2 H6 hv2 => ?_;simp (disch := omega) only [go_sem, e0, e4, e5];refine ⟨j + 1, _, GhostS.refl _, (hI _ _ _).2 ?_, by omega⟩;simp (disch := omega) only [go_sem, e0, e4, e5, hw1];(repeat' apply And.intro) <;> (try first | rfl | assumption | omega);rw [htk, dToks_snoc, hk, show (ws.take (j + 1)).length = ((ws.take j).map wTok).length + 1 by rw [List.length_map, List.length_take, List.length_take]; omega];exact hv2
  ·have : j = ws.length := by omega
   subst this;have hlt' : ¬ (ws.length : Int) < (ws.length : Int) := by omega
   rw [List.take_length, List.length_map] at hv;simp (disch := omega) only [go_sem, e0, e4, e5, hlt', dW];exact DFin.refl ⟨_, rfl, hv⟩
def leastP (e : Ex) (i : Nat) : Int := if e.kind = 12 then (if i = 0 then leastL e else leastR e) else if levelE e = 1 then 2 else leastM e
set_option maxHeartbeats 8000000 in
theorem rleast_spec (G : Nat → DVal) (H : DHeap) (e : Ex) (i : Nat) (hi : i = 0 ∨ i = 1) (hk : e.kind = 11 ∨ e.kind = 12 ∨ e.kind = 13 ∨ e.kind = 14) (h12 : e.kind = 12 → 2 ≤ e.l.length) : DCalls Tryz.prog G 142 [.agg (dEx e), dI i] H (DRet (dI (leastP e i)) H) := by
 have hfl := flat_len dEx_len e.l;have hlv := level_ge e;have hwl1 : IntKind.i64.wrap (levelE e + 1) = levelE e + 1 := by rw [IntKind.wrap_i64]; omega
 refine dcalls_intro Tryz.func142 Tryz.call142 rfl (by kernel_rfl) ?_;simp (disch := omega) only [go_sem, DVal.cells];intro r2 hr2; dsimp only at hr2;simp (disch := omega) only [go_sem];refine (rlevel_spec G _ e).mono ?_;rintro _ K ⟨rfl, rfl⟩;have hs : Sub H (upd H r2 (some (.cells (dEx e) 27))) := (Sub.refl H).new hr2 _;by_cases k12 : e.kind = 12
 ·have hl2 := h12 k12;obtain ⟨x, hx⟩ : ∃ x, x = e.l.getD 0 ex0 := ⟨_, rfl⟩;obtain ⟨y, m, hm⟩ : ∃ y m, e.l = y :: m := by
   cases hc : e.l with
   | nil => rw [hc] at hl2; simp at hl2
   | cons y m => exact ⟨y, m, rfl⟩
  have hxy : x = y := by rw [hx, hm]; rfl
  have hlp : (0 : Nat) < e.l.length := by omega
  have hx0 : (e.l.flatMap dEx)[0]? = some (.int .u8 x.kind) := by rw [hm, List.flatMap_cons, dEx_eq, hxy]; rfl
  have hx1 : (e.l.flatMap dEx)[1]? = some (.int .u8 x.oper) := by rw [hm, List.flatMap_cons, dEx_eq, hxy]; rfl
  by_cases c0 : levelE e = 0
  ·rcases hi with rfl | rfl
   ·have hP : leastP e 0 = if x.kind = 12 ∧ x.oper = e.oper then 0 else 1 := by
     rw [leastP, if_pos k12, if_pos rfl, leastL, c0, if_neg (by decide), ← hx];by_cases cc : x.kind = 12 ∧ x.oper = e.oper
     ·rw [if_pos cc, if_neg (by rintro ⟨_, a | a⟩; exact a cc.1; exact a cc.2)]
     ·rw [if_neg cc, if_pos ⟨rfl, by by_cases c1 : x.kind = 12; exact .inr fun a => cc ⟨c1, a⟩; exact .inl c1⟩]
    rw [hP];have z0 : ((0 : Nat) : Int) = 0 := rfl;simp (disch := omega) only [go_sem, k12, c0, z0];refine dwp_draws (by kernel_rfl) (.take 0 (.take 1 (.take 2 (.take 3 (.take 4 (.take 5 (.take 6 (.take 7 (.take 8 (.take 9 (.take 10 (.take 11 (.take 12 (.take 13 (.take 14 (.take 15 (.take 16 (.take 17 (.take 18 (.take 19 .done)))))))))))))))))))) (by kernel_rfl) ?_;by_cases ck : x.kind = 12
    ·by_cases co : x.oper = e.oper
     ·simp (disch := omega) only [go_sem, hlp, hfl, hx0, hx1, ck, co, z0];exact DFin.sub hs (.refl ⟨rfl, rfl⟩)
     ·simp (disch := omega) only [go_sem, hlp, hfl, hx0, hx1, ck, co, z0];exact DFin.sub hs (.refl ⟨rfl, rfl⟩)
    ·simp (disch := omega) only [go_sem, hlp, hfl, hx0, hx1, ck, z0];exact DFin.sub hs (.refl ⟨rfl, rfl⟩)
   ·have hP : leastP e 1 = 1 := by rw [leastP, if_pos k12, if_neg (by decide), leastR, c0]; rfl
    rw [hP];have z0 : ((1 : Nat) : Int) = 1 := rfl;simp (disch := omega) only [go_sem, k12, c0, z0];refine dwp_draws (by kernel_rfl) (.take 0 (.take 1 (.take 2 (.take 3 (.take 4 (.take 5 (.take 6 (.take 7 (.take 8 (.take 9 (.take 10 (.take 11 (.take 12 (.take 13 (.take 14 (.take 15 (.take 16 (.take 17 (.take 18 (.take 19 .done)))))))))))))))))))) (by kernel_rfl) ?_;simp (disch := omega) only [go_sem, hlp, hfl, hx0, hx1, z0];exact DFin.sub hs (.refl ⟨rfl, rfl⟩)
  ·by_cases c1 : levelE e = 1
   ·have hP : leastP e i = 2 := by
     rw [leastP, if_pos k12, leastL, leastR, if_pos c1, if_pos c1]; split <;> rfl
    rw [hP];simp (disch := omega) only [go_sem, k12, c0, c1];exact DFin.sub hs (.refl ⟨rfl, rfl⟩)
   ·rcases hi with rfl | rfl
    ·have hP : leastP e 0 = levelE e := by rw [leastP, if_pos k12, if_pos rfl, leastL, if_neg c1, if_neg (by rintro ⟨a, _⟩; exact c0 a)]
     rw [hP];have z0 : ((0 : Nat) : Int) = 0 := rfl;simp (disch := omega) only [go_sem, k12, c0, c1, z0];exact DFin.sub hs (.refl ⟨rfl, rfl⟩)
    ·have hP : leastP e 1 = levelE e + 1 := by rw [leastP, if_pos k12, if_neg (by decide), leastR, if_neg c1]
     rw [hP];have z0 : ((1 : Nat) : Int) = 1 := rfl;simp (disch := omega) only [go_sem, k12, c0, c1, z0, hwl1];exact DFin.sub hs (.refl ⟨rfl, rfl⟩)
 ·by_cases c1 : levelE e = 1
  ·have hP : leastP e i = 2 := by rw [leastP, if_neg k12, if_pos c1]
   rw [hP];simp (disch := omega) only [go_sem, k12, c1];exact DFin.sub hs (.refl ⟨rfl, rfl⟩)
  ·have k11 : e.kind = 11 := by
    rcases hk with h | h | h
    ·exact h
    ·exact absurd h k12
    ·exfalso; apply c1; unfold levelE; rw [if_pos h]
   by_cases c2 : levelE e = 2
   ·have hP : leastP e i = 3 := by rw [leastP, if_neg k12, if_neg c1, leastM, if_pos c2]
    rw [hP];simp (disch := omega) only [go_sem, k11, c2];exact DFin.sub hs (.refl ⟨rfl, rfl⟩)
   ·have hP : leastP e i = 5 := by rw [leastP, if_neg k12, if_neg c1, leastM, if_neg c2]
    rw [hP];simp (disch := omega) only [go_sem, k11, c1, c2];exact DFin.sub hs (.refl ⟨rfl, rfl⟩)
set_option maxHeartbeats 4000000 in
theorem rpart_spec (G : Nat → DVal) (H : DHeap) (e : Ex) (lv : Int) (hlen : (toksE e).length ≤ 1000000) (he : ∀ H, DCalls Tryz.prog G 87 [.agg (dEx e)] H (DRet (dToks (toksE e)) H)) : DCalls Tryz.prog G 141 [.agg (dEx e), dI lv] H (DRet (dToks (partE e lv)) H) := by
 refine dcalls_intro Tryz.func141 Tryz.call141 rfl (by kernel_rfl) ?_;simp (disch := omega) only [go_sem, DVal.cells];intro r2 hr2; dsimp only at hr2;obtain ⟨K, hK⟩ : ∃ K', K' = upd H r2 (some (.cells (dEx e) 27)) := ⟨_, rfl⟩;rw [← hK];have g2 : K r2 = some (.cells (dEx e) 27) := by rw [hK]; exact upd_same _ _ _
 have hs : Sub H K := by rw [hK]; exact (Sub.refl H).new hr2 _
 simp (disch := omega) only [go_sem, g2];refine DCalls.monoR (rlevel_spec G K e) ?_;try simp (disch := omega) only [go_sem, g2, dTok]
 by_cases c : levelE e < lv
 ·have hp : partE e lv = [[sTok wOpen], toksE e, [sTok wShut]].flatten := by rw [partE, decide_eq_true c, parT, if_pos rfl, wTok, wTok, show kindW wOpen = 4 by decide +kernel, show kindW wShut = 4 by decide +kernel]; simp [sTok]
  rw [hp];simp (disch := omega) only [go_sem, c];refine dwp_draws (by kernel_rfl) (.take 3 (.go 0 [3] (.go 1 [3] (.go 2 [3] (.go 4 [] (.go 5 [] (.go 6 [] (.go 7 [] (.go 8 [] (.go 9 [] (.take 10 .done))))))))))) (by kernel_rfl) ?_;simp (disch := omega) only [go_sem, g2];refine DCalls.monoR (wsym_spec G K wOpen) ?_;try simp (disch := omega) only [go_sem, g2, dTok]
  intro q1 hq1; dsimp only at hq1;have nq1 : r2 ≠ q1 := none_ne hq1 g2;try simp (disch := omega) only [go_sem, g2, nq1, dTok, repl1, repl2, repl3, List.drop_succ_cons, List.drop_zero, List.drop_nil, List.cons_append, List.nil_append, List.append_nil]
  refine DCalls.monoR (one1 G K (sTok wOpen) hq1) ?_;try simp (disch := omega) only [go_sem, g2, dTok, nq1]
  refine DCalls.monoR (he K) ?_;try simp (disch := omega) only [go_sem, g2, dTok, nq1]
  refine DCalls.monoR (wsym_spec G K wShut) ?_;try simp (disch := omega) only [go_sem, g2, dTok, nq1]
  intro q2 hq2; dsimp only at hq2;have nq2 : r2 ≠ q2 := none_ne hq2 g2;try simp (disch := omega) only [go_sem, g2, nq2, dTok, repl1, repl2, repl3, List.drop_succ_cons, List.drop_zero, List.drop_nil, List.cons_append, List.nil_append, List.append_nil]
  refine DCalls.monoR (one1 G K (sTok wShut) hq2) ?_;try simp (disch := omega) only [go_sem, g2, dTok, nq1, nq2]
  intro q3 hq3; dsimp only at hq3;have nq3 : r2 ≠ q3 := none_ne hq3 g2;try simp (disch := omega) only [go_sem, g2, nq3, dTok, repl1, repl2, repl3, List.drop_succ_cons, List.drop_zero, List.drop_nil, List.cons_append, List.nil_append, List.append_nil]
  have hj : [[sTok wOpen], toksE e, [sTok wShut]].flatten.length ≤ 100000000 := by rw [← hp, partE, parT_len]; split <;> omega
  refine DCalls.monoR (joinL' G K [[sTok wOpen], toksE e, [sTok wShut]] hq3 rfl (by simp) hj) ?_;try simp (disch := omega) only [go_sem, g2, dTok, nq1, nq2, nq3]
  exact DFin.sub hs (.refl ⟨rfl, rfl⟩)
 ·have hp : partE e lv = toksE e := by rw [partE, decide_eq_false c]; rfl
  rw [hp];simp (disch := omega) only [go_sem, c, g2];refine DCalls.monoR (he K) ?_;try simp (disch := omega) only [go_sem, g2, dTok]
  exact DFin.sub hs (.refl ⟨rfl, rfl⟩)
end
end Go.Dl

-- Chapter 3: the reference's tokens: choices, arguments.
namespace Go.Dl
open Go Go.Proofs
set_option maxRecDepth 100000
def AllOk (P : Program) (G : Nat → DVal) (f : FuncId) (e : Ex) : Prop := (toksE e).length ≤ 100000 ∧ ∀ H, DCalls P G f [.agg (dEx e)] H (DRet (dToks (toksE e)) H)
theorem toks_all_one (ts : List Tok) : (ts.flatMap dTok).all (fun d => d.one) = true := by
 rw [List.all_eq_true];intro d hd;obtain ⟨t, _, hd⟩ := List.mem_flatMap.1 hd;exact List.all_eq_true.1 (dTok_one t) d hd
theorem toks_take_all (ts : List Tok) : (ts.flatMap dTok).take (ts.length * 4) = ts.flatMap dTok := List.take_of_length_le (by rw [flat_len dTok_len]; omega)
section
variable {G : Nat → DVal}
set_option maxHeartbeats 8000000 in
theorem rchoiceT_own (G : Nat → DVal) (K : DHeap) (l : List Ch) {n : Nat} (hll : l.length ≤ 1000000) (hr : ∀ c ∈ l, rightC n c = true) (ho : ∀ c ∈ l, ∀ x ∈ c.l, AllOk Tryz.prog G 87 x) (hlen : (sepT wBar (l.map toksC)).length ≤ 10000000) :
  DCalls Tryz.prog G 93 [dCl l] K (fun e H' => ∃ v, e = .ret v ∧ OwnJ K 52 4 (sepT wBar (l.map toksC)).length ((sepT wBar (l.map toksC)).flatMap dTok) v H') := by
 refine dcalls_intro Tryz.func93 Tryz.call93 rfl (by kernel_rfl) ?_;simp (disch := omega) only [go_sem];obtain ⟨I, hI⟩ : ∃ I : Nat → (Nat → DVal) → DHeap → Prop, ∀ j env heap, I j env heap ↔ (env 0 = dCl l ∧ env 4 = dI j ∧ j ≤ l.length ∧ OwnJ K 52 4 (sepT wBar ((l.take j).map toksC)).length ((sepT wBar ((l.take j).map toksC)).flatMap dTok) (env 3) heap) := ⟨_, fun _ _ _ => Iff.rfl⟩;refine DLoop.run I (fun j => l.length - j) 0 ((hI _ _ _).2 ?_) ?_
 ·simp (disch := omega) only [go_sem];(repeat' apply And.intro) <;> (try first | rfl | assumption | omega);exact OwnJ.nil _ _ (Sub.refl K)
 ·intro j env heap hi;obtain ⟨e0, e4, hj, hv⟩ := (hI _ _ _).1 hi;by_cases hlt : j < l.length
  ·have hlt' : (j : Int) < (l.length : Int) := by omega
   have hw1 : IntKind.i64.wrap ((j : Int) + 1) = ((j + 1 : Nat) : Int) := by rw [IntKind.wrap_i64]; omega
   have hget0 := flat_el dCh_len l j hlt;have hfl := flat_len dCh_len l;have htk := sepT_take toksC wBar l j hlt;have hle := sepT_le toksC wBar l (j + 1) hlt;have hrc := hr l[j] (List.getElem_mem hlt);have hok := ho l[j] (List.getElem_mem hlt);obtain ⟨c, hce⟩ : ∃ c, c = l[j] := ⟨_, rfl⟩;rw [← hce] at hget0 htk hrc hok;rw [htk, List.length_append, List.length_append] at hle;have hget := flat_get dCh_len l j hlt;rw [← hce] at hget;have hg0 : (l.flatMap dCh)[j * 2]? = some (.int .u8 c.kind) := by have := hget 0 (by decide); rw [Nat.add_zero] at this; rw [this, dCh_eq]; rfl
   have hgl : (l.flatMap dCh)[j * 2 + 1]? = some (.vslice (c.l.flatMap dEx) c.l.length) := by rw [hget 1 (by decide), dCh_eq]; rfl
   have ht4 := fun ts : List Tok => flat_len dTok_len ts;have hfx := fun e : List Ex => flat_len dEx_len e;clear hget;have hget := hg0;have hcl : (dCl l) = .vslice (l.flatMap dCh) l.length := rfl;obtain ⟨v, hve⟩ : ∃ v, v = env 3 := ⟨_, rfl⟩;rw [← hve] at hv;simp (disch := omega) only [go_sem, e0, e4, ← hve, hlt', hcl];by_cases c0 : j = 0
   ·have c0'' : ¬ (0 : Int) < (j : Int) := by omega
    rw [if_pos c0, List.nil_append] at htk;rw [if_pos c0, List.length_nil] at hle;obtain ⟨pre, hpre⟩ : ∃ pre, pre = sepT wBar ((l.take j).map toksC) := ⟨_, rfl⟩;rw [← hpre] at hv htk hle;have hpv := hv;rw [hve] at hpv;simp (disch := omega) only [go_sem, e0, e4, c0''];by_cases k1 : c.kind = 1
    ·obtain ⟨x, hx⟩ := len1 (by simpa [rightC, k1] using hrc);have ht : toksC c = toksE x := by rw [toksC_eq, if_pos k1, hx]; rfl
     have hl0 := lx0 hx;have hll : c.l.length = 1 := by rw [hx]; rfl
     obtain ⟨ho1, ho2⟩ := hok x (by rw [hx]; simp);rw [ht] at htk hle;simp (disch := omega) only [go_sem, e0, e4, hcl, hget, hfl, hgl, Int.toNat_natCast, k1, hll, hl0, hfx];refine DCalls.monoR (ho2 _) ?_;simp (disch := omega) only [go_sem, dToks, toks_take_all, toks_all_one, ht4];refine OwnJ.append (n := pre.length) (bytes := 40) (m := (toksE x).length) (news := (toksE x).flatMap dTok) hpv (flat_len dTok_len _) (by omega) fun v2 H2 hv2 => ?_;simp (disch := omega) only [go_sem, e0, e4];refine ⟨j + 1, _, GhostS.refl _, (hI _ _ _).2 ?_, by omega⟩;simp (disch := omega) only [go_sem, e0, e4, hw1];(repeat' apply And.intro) <;> (try first | rfl | assumption | omega);rw [← List.flatMap_append, ← List.length_append] at hv2;rw [htk];exact hv2
    ·by_cases k2 : c.kind = 2
     ·obtain ⟨x, y, hx⟩ := len2 (by simpa [rightC, k2] using hrc);have ht : toksC c = partE x 2 ++ ([sTok wDots] ++ partE y 2) := by rw [toksC_eq, if_neg k1, if_pos k2, hx]; rfl
      have hl0 := lx0 hx;have hl1 := lx1 hx;have hll : c.l.length = 2 := by rw [hx]; rfl
      obtain ⟨hx1, hx2⟩ := hok x (by rw [hx]; simp);obtain ⟨hy1, hy2⟩ := hok y (by rw [hx]; simp);have pl1 := partE_len x 2;have pl2 := partE_len y 2;rw [ht] at htk hle;rw [List.length_append, List.length_append, List.length_singleton] at hle;simp (disch := omega) only [go_sem, e0, e4, hcl, hget, hfl, hgl, Int.toNat_natCast, k2];refine dwp_draws (by kernel_rfl) (.take 0 (.take 1 (.take 2 (.take 3 (.take 4 (.take 5 (.take 6 (.take 7 (.take 12 (.take 13 (.take 14 (.take 15 (.take 16 (.take 17 (.take 18 (.go 8 [18, 16] (.go 9 [18, 16] (.go 10 [18, 16] (.go 11 [18, 16] (.go 19 [] (.go 20 [] (.go 21 [] (.take 22 .done))))))))))))))))))))))) (by kernel_rfl) ?_;simp (disch := omega) only [go_sem, e0, e4, hcl, hget, hfl, hgl, Int.toNat_natCast, hll, hl0, hl1, hfx];refine DCalls.monoR (rpart_spec G _ x 2 (by omega) hx2) ?_;try simp (disch := omega) only [go_sem, e0, e4, hcl, hget, hfl, hgl, Int.toNat_natCast, hll, hl0, hl1, dTok]
      refine DCalls.monoR (wsym_spec G _ wDots) ?_;try simp (disch := omega) only [go_sem, e0, e4, hcl, hget, hfl, hgl, Int.toNat_natCast, hll, hl0, hl1, dTok]
      intro q1 hq1; dsimp only at hq1;have hpv1 := fun z => hpv.new hq1 z;try simp (disch := omega) only [go_sem, e0, e4, repl1, List.drop_succ_cons, List.drop_zero, List.drop_nil, List.append_nil]
      refine DCalls.monoR (one1 G _ (sTok wDots) hq1) ?_;try simp (disch := omega) only [go_sem, e0, e4, hcl, hget, hfl, hgl, Int.toNat_natCast, hll, hl0, hl1, dTok]
      refine DCalls.monoR (rpart_spec G _ y 2 (by omega) hy2) ?_;try simp (disch := omega) only [go_sem, e0, e4, hcl, hget, hfl, hgl, Int.toNat_natCast, hll, hl0, hl1, dTok]
      obtain ⟨hc1, -⟩ := hpv.cell1;simp (disch := omega) only [go_sem, hc1, dToks, repl1, repl2, repl3, List.length_cons, List.length_nil, List.drop_succ_cons, List.drop_zero, List.drop_nil, List.append_nil, List.cons_append, List.nil_append];intro q2 hq2; dsimp only at hq2;simp (disch := omega) only [go_sem, e0, e4, hcl, hget, hfl, hgl, Int.toNat_natCast, hll, hl0, hl1];have hpv2 := fun z => hpv.new hq2 z;have hj : [pre, partE x 2, [sTok wDots], partE y 2].flatten.length ≤ 100000000 := by
       simp only [List.flatten_cons, List.flatten_nil, List.length_append, List.length_cons, List.length_nil]; omega
      have hk0 : K q2 = none := by
       rcases hkq : K q2 with _ | o
       ·rfl
       ·have := hpv.keep hkq; rw [hq2] at this; cases this
      refine (Seens.call (hpv2 _).sub (.cons (Seen.cells (e := 28) (size := 1) (n := 4) (cs' := [dToks pre, dToks (partE x 2), dToks [sTok wDots], dToks (partE y 2)]) (hpv2 _).sub hk0 (upd_same _ _ _) rfl (.cons (.own (hpv2 _)) (.keep (hpv2 _).sub _))) .nil) (join_own G K [pre, partE x 2, [sTok wDots], partE y 2] (by simp) hj)).mono ?_;rintro _ H9 ⟨v2, rfl, hv2⟩;simp (disch := omega) only [go_sem, e0, e4];refine ⟨j + 1, _, GhostS.refl _, (hI _ _ _).2 ?_, by omega⟩;simp (disch := omega) only [go_sem, e0, e4, hw1];(repeat' apply And.intro) <;> (try first | rfl | assumption | omega);rw [htk];simpa using hv2
     ·have k3 : c.kind = 3 := by
       unfold rightC at hrc;rw [if_neg k1, if_neg k2] at hrc;simp only [Bool.and_eq_true, decide_eq_true_eq] at hrc;exact hrc.1.1
      have ht : toksC c = [kTok wOthers] := by rw [toksC_eq, if_neg k1, if_neg k2, wTok, show kindW wOthers = 2 by decide +kernel]; rfl
      rw [ht] at htk hle;rw [List.length_singleton] at hle;simp (disch := omega) only [go_sem, e0, e4, hcl, hget, hfl, hgl, Int.toNat_natCast, k1, k2];refine DCalls.monoR (wkey_spec G _ wOthers) ?_;simp (disch := omega) only [go_sem, dTok];intro r24 hr24; dsimp only at hr24;try simp (disch := omega) only [go_sem, repl1, List.drop_succ_cons, List.drop_zero, List.drop_nil, List.append_nil]
      refine OwnJ.append (n := pre.length) (bytes := 40) (m := 1) (news := [kTok wOthers].flatMap dTok) (hpv.new hr24 _) rfl (by omega) fun v2 H2 hv2 => ?_;simp (disch := omega) only [go_sem, e0, e4];refine ⟨j + 1, _, GhostS.refl _, (hI _ _ _).2 ?_, by omega⟩;simp (disch := omega) only [go_sem, e0, e4, hw1];(repeat' apply And.intro) <;> (try first | rfl | assumption | omega);rw [← List.flatMap_append] at hv2;rw [htk, List.length_append];exact hv2
   ·have c0'' : (0 : Int) < (j : Int) := by omega
    rw [if_neg c0, ← List.append_assoc] at htk;rw [if_neg c0, List.length_singleton] at hle;simp (disch := omega) only [go_sem, e0, e4, ← hve, c0''];refine DCalls.monoR (wsym_spec G _ wBar) ?_;simp (disch := omega) only [go_sem, dTok];intro r15 hr15; dsimp only at hr15;try simp (disch := omega) only [go_sem, repl1, List.drop_succ_cons, List.drop_zero, List.drop_nil, List.append_nil]
    refine OwnJ.append (m := 1) (news := dTok (sTok wBar)) (hv.new hr15 _) rfl (by omega) fun v1 H1 hv1 => ?_;obtain ⟨pre, hpre⟩ : ∃ pre, pre = sepT wBar ((l.take j).map toksC) ++ [sTok wBar] := ⟨_, rfl⟩;have hpv : OwnJ K 52 4 pre.length (pre.flatMap dTok) v1 H1 := by
     rw [hpre, List.length_append, List.flatMap_append]; exact hv1
    have hpl : pre.length = (sepT wBar ((l.take j).map toksC)).length + 1 := by rw [hpre, List.length_append]; rfl
    have hb1 : wTok wBar = sTok wBar := by rw [wTok, show kindW wBar = 4 by decide +kernel]; rfl
    rw [hb1, ← hpre] at htk;simp (disch := omega) only [go_sem, e0, e4];by_cases k1 : c.kind = 1
    ·obtain ⟨x, hx⟩ := len1 (by simpa [rightC, k1] using hrc);have ht : toksC c = toksE x := by rw [toksC_eq, if_pos k1, hx]; rfl
     have hl0 := lx0 hx;have hll : c.l.length = 1 := by rw [hx]; rfl
     obtain ⟨ho1, ho2⟩ := hok x (by rw [hx]; simp);rw [ht] at htk hle;simp (disch := omega) only [go_sem, e0, e4, hcl, hget, hfl, hgl, Int.toNat_natCast, k1, hll, hl0, hfx];refine DCalls.monoR (ho2 _) ?_;simp (disch := omega) only [go_sem, dToks, toks_take_all, toks_all_one, ht4];refine OwnJ.append (n := pre.length) (bytes := 40) (m := (toksE x).length) (news := (toksE x).flatMap dTok) hpv (flat_len dTok_len _) (by omega) fun v2 H2 hv2 => ?_;simp (disch := omega) only [go_sem, e0, e4];refine ⟨j + 1, _, GhostS.refl _, (hI _ _ _).2 ?_, by omega⟩;simp (disch := omega) only [go_sem, e0, e4, hw1];(repeat' apply And.intro) <;> (try first | rfl | assumption | omega);rw [← List.flatMap_append, ← List.length_append] at hv2;rw [htk];exact hv2
    ·by_cases k2 : c.kind = 2
     ·obtain ⟨x, y, hx⟩ := len2 (by simpa [rightC, k2] using hrc);have ht : toksC c = partE x 2 ++ ([sTok wDots] ++ partE y 2) := by rw [toksC_eq, if_neg k1, if_pos k2, hx]; rfl
      have hl0 := lx0 hx;have hl1 := lx1 hx;have hll : c.l.length = 2 := by rw [hx]; rfl
      obtain ⟨hx1, hx2⟩ := hok x (by rw [hx]; simp);obtain ⟨hy1, hy2⟩ := hok y (by rw [hx]; simp);have pl1 := partE_len x 2;have pl2 := partE_len y 2;rw [ht] at htk hle;rw [List.length_append, List.length_append, List.length_singleton] at hle;simp (disch := omega) only [go_sem, e0, e4, hcl, hget, hfl, hgl, Int.toNat_natCast, k2];refine dwp_draws (by kernel_rfl) (.take 0 (.take 1 (.take 2 (.take 3 (.take 4 (.take 5 (.take 6 (.take 7 (.take 12 (.take 13 (.take 14 (.take 15 (.take 16 (.take 17 (.take 18 (.go 8 [18, 16] (.go 9 [18, 16] (.go 10 [18, 16] (.go 11 [18, 16] (.go 19 [] (.go 20 [] (.go 21 [] (.take 22 .done))))))))))))))))))))))) (by kernel_rfl) ?_;simp (disch := omega) only [go_sem, e0, e4, hcl, hget, hfl, hgl, Int.toNat_natCast, hll, hl0, hl1, hfx];refine DCalls.monoR (rpart_spec G _ x 2 (by omega) hx2) ?_;try simp (disch := omega) only [go_sem, e0, e4, hcl, hget, hfl, hgl, Int.toNat_natCast, hll, hl0, hl1, dTok]
      refine DCalls.monoR (wsym_spec G _ wDots) ?_;try simp (disch := omega) only [go_sem, e0, e4, hcl, hget, hfl, hgl, Int.toNat_natCast, hll, hl0, hl1, dTok]
      intro q1 hq1; dsimp only at hq1;have hpv1 := fun z => hpv.new hq1 z;try simp (disch := omega) only [go_sem, e0, e4, repl1, List.drop_succ_cons, List.drop_zero, List.drop_nil, List.append_nil]
      refine DCalls.monoR (one1 G _ (sTok wDots) hq1) ?_;try simp (disch := omega) only [go_sem, e0, e4, hcl, hget, hfl, hgl, Int.toNat_natCast, hll, hl0, hl1, dTok]
      refine DCalls.monoR (rpart_spec G _ y 2 (by omega) hy2) ?_;try simp (disch := omega) only [go_sem, e0, e4, hcl, hget, hfl, hgl, Int.toNat_natCast, hll, hl0, hl1, dTok]
      obtain ⟨hc1, -⟩ := hpv.cell1;simp (disch := omega) only [go_sem, hc1, dToks, repl1, repl2, repl3, List.length_cons, List.length_nil, List.drop_succ_cons, List.drop_zero, List.drop_nil, List.append_nil, List.cons_append, List.nil_append];intro q2 hq2; dsimp only at hq2;simp (disch := omega) only [go_sem, e0, e4, hcl, hget, hfl, hgl, Int.toNat_natCast, hll, hl0, hl1];have hpv2 := fun z => hpv.new hq2 z;have hj : [pre, partE x 2, [sTok wDots], partE y 2].flatten.length ≤ 100000000 := by
       simp only [List.flatten_cons, List.flatten_nil, List.length_append, List.length_cons, List.length_nil]; omega
      have hk0 : K q2 = none := by
       rcases hkq : K q2 with _ | o
       ·rfl
       ·have := hpv.keep hkq; rw [hq2] at this; cases this
      refine (Seens.call (hpv2 _).sub (.cons (Seen.cells (e := 28) (size := 1) (n := 4) (cs' := [dToks pre, dToks (partE x 2), dToks [sTok wDots], dToks (partE y 2)]) (hpv2 _).sub hk0 (upd_same _ _ _) rfl (.cons (.own (hpv2 _)) (.keep (hpv2 _).sub _))) .nil) (join_own G K [pre, partE x 2, [sTok wDots], partE y 2] (by simp) hj)).mono ?_;rintro _ H9 ⟨v2, rfl, hv2⟩;simp (disch := omega) only [go_sem, e0, e4];refine ⟨j + 1, _, GhostS.refl _, (hI _ _ _).2 ?_, by omega⟩;simp (disch := omega) only [go_sem, e0, e4, hw1];(repeat' apply And.intro) <;> (try first | rfl | assumption | omega);rw [htk];simpa using hv2
     ·have k3 : c.kind = 3 := by
       unfold rightC at hrc;rw [if_neg k1, if_neg k2] at hrc;simp only [Bool.and_eq_true, decide_eq_true_eq] at hrc;exact hrc.1.1
      have ht : toksC c = [kTok wOthers] := by rw [toksC_eq, if_neg k1, if_neg k2, wTok, show kindW wOthers = 2 by decide +kernel]; rfl
      rw [ht] at htk hle;rw [List.length_singleton] at hle;simp (disch := omega) only [go_sem, e0, e4, hcl, hget, hfl, hgl, Int.toNat_natCast, k1, k2];refine DCalls.monoR (wkey_spec G _ wOthers) ?_;simp (disch := omega) only [go_sem, dTok];intro r24 hr24; dsimp only at hr24;try simp (disch := omega) only [go_sem, repl1, List.drop_succ_cons, List.drop_zero, List.drop_nil, List.append_nil]
      refine OwnJ.append (n := pre.length) (bytes := 40) (m := 1) (news := [kTok wOthers].flatMap dTok) (hpv.new hr24 _) rfl (by omega) fun v2 H2 hv2 => ?_;simp (disch := omega) only [go_sem, e0, e4];refine ⟨j + 1, _, GhostS.refl _, (hI _ _ _).2 ?_, by omega⟩;simp (disch := omega) only [go_sem, e0, e4, hw1];(repeat' apply And.intro) <;> (try first | rfl | assumption | omega);rw [← List.flatMap_append] at hv2;rw [htk, List.length_append];exact hv2
  ·have : j = l.length := by omega
   subst this;have hlt' : ¬ (l.length : Int) < (l.length : Int) := by omega
   rw [List.take_length] at hv;simp (disch := omega) only [go_sem, e0, e4, hlt', dCl];exact DFin.refl ⟨_, rfl, hv⟩
end
end Go.Dl

-- Chapter 3: the reference's tokens: arguments.
namespace Go.Dl
open Go Go.Proofs
set_option maxRecDepth 100000
section
variable {G : Nat → DVal}
set_option maxHeartbeats 8000000 in
theorem rargs_own (G : Nat → DVal) (K : DHeap) (l : List As) (hll : l.length ≤ 1000000) (hr : ∀ a ∈ l, (a.c.isEmpty || rightCs a.c) = true) (ho : ∀ a ∈ l, AllOk Tryz.prog G 87 a.e ∧ ∀ c ∈ a.c, ∀ x ∈ c.l, AllOk Tryz.prog G 87 x) (hlen : (sepT wComma (l.map toksA)).length ≤ 10000000) :
  DCalls Tryz.prog G 90 [dAl l] K (fun e H' => ∃ v, e = .ret v ∧ OwnJ K 52 4 (sepT wComma (l.map toksA)).length ((sepT wComma (l.map toksA)).flatMap dTok) v H') := by
 refine dcalls_intro Tryz.func90 Tryz.call90 rfl (by kernel_rfl) ?_;simp (disch := omega) only [go_sem];obtain ⟨I, hI⟩ : ∃ I : Nat → (Nat → DVal) → DHeap → Prop, ∀ j env heap, I j env heap ↔ (env 0 = dAl l ∧ env 4 = dI j ∧ j ≤ l.length ∧ OwnJ K 52 4 (sepT wComma ((l.take j).map toksA)).length ((sepT wComma ((l.take j).map toksA)).flatMap dTok) (env 3) heap) := ⟨_, fun _ _ _ => Iff.rfl⟩;refine DLoop.run I (fun j => l.length - j) 0 ((hI _ _ _).2 ?_) ?_
 ·simp (disch := omega) only [go_sem];(repeat' apply And.intro) <;> (try first | rfl | assumption | omega);exact OwnJ.nil _ _ (Sub.refl K)
 ·intro j env heap hi;obtain ⟨e0, e4, hj, hv⟩ := (hI _ _ _).1 hi;by_cases hlt : j < l.length
  ·have hlt' : (j : Int) < (l.length : Int) := by omega
   have hw1 : IntKind.i64.wrap ((j : Int) + 1) = ((j + 1 : Nat) : Int) := by rw [IntKind.wrap_i64]; omega
   have hfl := flat_len dAs_len l;have htk := sepT_take toksA wComma l j hlt;have hle := sepT_le toksA wComma l (j + 1) hlt;have hrc := hr l[j] (List.getElem_mem hlt);obtain ⟨hoe, hokc⟩ := ho l[j] (List.getElem_mem hlt);have hget0 := flat_el dAs_len l j hlt;have gk := flat_get dAs_len l j hlt 0 (by decide);obtain ⟨a, hae⟩ : ∃ a, a = l[j] := ⟨_, rfl⟩;rw [← hae] at htk hrc hoe hokc gk hget0;obtain ⟨ho1, ho2⟩ := hoe;rw [htk, List.length_append, List.length_append] at hle;have hgl : (l.flatMap dAs)[j * 10]? = some (.vslice (a.c.flatMap dCh) a.c.length) := by rw [Nat.add_zero] at gk; rw [gk, dAs_eq]; rfl
   have hget : ((l.flatMap dAs).drop (j * 10 + 1)).take 9 = dEx a.e := by
    have : ((l.flatMap dAs).drop (j * 10 + 1)).take 9 = (((l.flatMap dAs).drop (j * 10)).take 10).drop 1 := by rw [List.drop_take, List.drop_drop]
    rw [this, hget0, dAs_eq]; rfl
   have ht4 := fun ts : List Tok => flat_len dTok_len ts;have hcl : (dAl l) = .vslice (l.flatMap dAs) l.length := rfl;clear hget0 gk;obtain ⟨v, hve⟩ : ∃ v, v = env 3 := ⟨_, rfl⟩;rw [← hve] at hv;simp (disch := omega) only [go_sem, e0, e4, ← hve, hlt', hcl];by_cases c0 : j = 0
   ·have c0'' : ¬ (0 : Int) < (j : Int) := by omega
    rw [if_pos c0, List.nil_append] at htk;rw [if_pos c0, List.length_nil] at hle;obtain ⟨pre, hpre⟩ : ∃ pre, pre = sepT wComma ((l.take j).map toksA) := ⟨_, rfl⟩;rw [← hpre] at hv htk hle;have hpv := hv;rw [hve] at hpv;simp (disch := omega) only [go_sem, e0, e4, c0''];by_cases kc : a.c = []
    ·have ht : toksA a = toksE a.e := by rw [toksA_eq, kc]; rfl
     have hnc : a.c.length = 0 := by rw [kc]; rfl
     have hnc' : ¬ (0 : Int) < (a.c.length : Int) := by omega
     rw [ht] at htk hle;simp (disch := omega) only [go_sem, e0, e4, hcl, hget, hfl, hgl, Int.toNat_natCast, hnc'];refine DCalls.monoR (ho2 _) ?_;simp (disch := omega) only [go_sem, dToks, toks_take_all, toks_all_one, ht4];refine OwnJ.append (n := (pre).length) (bytes := 40) (m := (toksE a.e).length) (news := (toksE a.e).flatMap dTok) hpv (flat_len dTok_len _) (by first | omega | (simp only [List.length_append, List.length_singleton]; omega)) fun v3 H3 hv3 => ?_;simp (disch := omega) only [go_sem, e0, e4];refine ⟨j + 1, _, GhostS.refl _, (hI _ _ _).2 ?_, by omega⟩;simp (disch := omega) only [go_sem, e0, e4, hw1];(repeat' apply And.intro) <;> (try first | rfl | assumption | omega);rw [← List.flatMap_append, ← List.length_append] at hv3;rw [htk];exact hv3
    ·have ht : toksA a = (sepT wBar (a.c.map toksC) ++ [sTok wArrow]) ++ toksE a.e := by
      have hb2 : wTok wArrow = sTok wArrow := by rw [wTok, show kindW wArrow = 4 by decide +kernel]; rfl
      rw [toksA_eq, if_neg (by simpa using kc), hb2]; simp
     have hne : 0 < a.c.length := List.length_pos_iff.2 kc;have hnc : (0 : Int) < (a.c.length : Int) := by omega
     have hcs : rightCs a.c = true := by
      rcases Bool.or_eq_true _ _ ▸ hrc with h | h
      ·exact absurd (by simpa using h) kc
      ·exact h
     obtain ⟨hc16, hcr⟩ : a.c.length ≤ 16 ∧ ∀ c ∈ a.c, rightC a.c.length c = true := by
      unfold rightCs at hcs;simp only [Bool.and_eq_true, decide_eq_true_eq, List.all_eq_true] at hcs;exact ⟨hcs.1.2, hcs.2⟩
     rw [ht, ← List.append_assoc] at htk;rw [ht, List.length_append, List.length_append, List.length_singleton] at hle;simp (disch := omega) only [go_sem, e0, e4, hcl, hget, hfl, hgl, Int.toNat_natCast, hnc];refine DCalls.monoR ((rchoiceT_own G _ a.c (n := a.c.length) (by omega) hcr hokc (by omega)).frozenJ) ?_;try simp (disch := omega) only [go_sem, e0, e4, hcl, hget, hfl, hgl, Int.toNat_natCast, hnc, dTok]
     refine DCalls.monoR (wsym_spec G _ wArrow) ?_;try simp (disch := omega) only [go_sem, e0, e4, hcl, hget, hfl, hgl, Int.toNat_natCast, hnc, dTok]
     intro q1 hq1; dsimp only at hq1;try simp (disch := omega) only [go_sem, e0, e4, repl1, List.drop_succ_cons, List.drop_zero, List.drop_nil, List.append_nil]
     refine DCalls.monoR (one1 G _ (sTok wArrow) hq1) ?_;try simp (disch := omega) only [go_sem, e0, e4, hcl, hget, hfl, hgl, Int.toNat_natCast, hnc, dTok]
     obtain ⟨hc1, -⟩ := hpv.cell1;simp (disch := omega) only [go_sem, hc1, dToks, repl1, repl2, repl3, List.length_cons, List.length_nil, List.drop_succ_cons, List.drop_zero, List.drop_nil, List.append_nil, List.cons_append, List.nil_append];intro q2 hq2; dsimp only at hq2;try simp (disch := omega) only [go_sem, e0, e4, hcl, hget, hfl, hgl, Int.toNat_natCast, hnc]
     have hpv2 := fun z => hpv.new hq2 z;obtain ⟨cs, hcsd⟩ : ∃ cs, cs = sepT wBar (a.c.map toksC) := ⟨_, rfl⟩;rw [← hcsd] at htk hle ⊢
     have hj : [pre, cs, [sTok wArrow]].flatten.length ≤ 100000000 := by
      simp only [List.flatten_cons, List.flatten_nil, List.length_append, List.length_cons, List.length_nil]; omega
     have hk0 : K q2 = none := by
      rcases hkq : K q2 with _ | o
      ·rfl
      ·have := hpv.keep hkq; rw [hq2] at this; cases this
     refine (Seens.call (hpv2 _).sub (.cons (Seen.cells (e := 28) (size := 1) (n := 3) (cs' := [dToks pre, dToks cs, dToks [sTok wArrow]]) (hpv2 _).sub hk0 (upd_same _ _ _) rfl (.cons (.own (hpv2 _)) (.keep (hpv2 _).sub _))) .nil) (join_own G K [pre, cs, [sTok wArrow]] (by simp) hj)).mono ?_;rintro _ H9 ⟨v2, rfl, hv2⟩;simp (disch := omega) only [go_sem, e0, e4, hcl, hget, hfl, hgl, Int.toNat_natCast, hnc];have hf3 : [pre, cs, [sTok wArrow]].flatten = pre ++ (cs ++ [sTok wArrow]) := by simp
     rw [hf3] at hv2;refine DCalls.monoR (ho2 _) ?_;simp (disch := omega) only [go_sem, dToks, toks_take_all, toks_all_one, ht4];refine OwnJ.append (n := (pre ++ (cs ++ [sTok wArrow])).length) (bytes := 40) (m := (toksE a.e).length) (news := (toksE a.e).flatMap dTok) hv2 (flat_len dTok_len _) (by first | omega | (simp only [List.length_append, List.length_singleton]; omega)) fun v3 H3 hv3 => ?_;simp (disch := omega) only [go_sem, e0, e4];refine ⟨j + 1, _, GhostS.refl _, (hI _ _ _).2 ?_, by omega⟩;simp (disch := omega) only [go_sem, e0, e4, hw1];(repeat' apply And.intro) <;> (try first | rfl | assumption | omega);rw [← List.flatMap_append, ← List.length_append] at hv3;rw [htk];exact hv3
   ·have c0'' : (0 : Int) < (j : Int) := by omega
    rw [if_neg c0, ← List.append_assoc] at htk;rw [if_neg c0, List.length_singleton] at hle;simp (disch := omega) only [go_sem, e0, e4, ← hve, c0''];refine DCalls.monoR (wsym_spec G _ wComma) ?_;simp (disch := omega) only [go_sem, dTok];intro r15 hr15; dsimp only at hr15;try simp (disch := omega) only [go_sem, repl1, List.drop_succ_cons, List.drop_zero, List.drop_nil, List.append_nil]
    refine OwnJ.append (m := 1) (news := dTok (sTok wComma)) (hv.new hr15 _) rfl (by omega) fun v1 H1 hv1 => ?_;obtain ⟨pre, hpre⟩ : ∃ pre, pre = sepT wComma ((l.take j).map toksA) ++ [sTok wComma] := ⟨_, rfl⟩;have hpv : OwnJ K 52 4 pre.length (pre.flatMap dTok) v1 H1 := by
     rw [hpre, List.length_append, List.flatMap_append]; exact hv1
    have hpl : pre.length = (sepT wComma ((l.take j).map toksA)).length + 1 := by rw [hpre, List.length_append]; rfl
    have hb1 : wTok wComma = sTok wComma := by rw [wTok, show kindW wComma = 4 by decide +kernel]; rfl
    rw [hb1, ← hpre] at htk;simp (disch := omega) only [go_sem, e0, e4];by_cases kc : a.c = []
    ·have ht : toksA a = toksE a.e := by rw [toksA_eq, kc]; rfl
     have hnc : a.c.length = 0 := by rw [kc]; rfl
     have hnc' : ¬ (0 : Int) < (a.c.length : Int) := by omega
     rw [ht] at htk hle;simp (disch := omega) only [go_sem, e0, e4, hcl, hget, hfl, hgl, Int.toNat_natCast, hnc'];refine DCalls.monoR (ho2 _) ?_;simp (disch := omega) only [go_sem, dToks, toks_take_all, toks_all_one, ht4];refine OwnJ.append (n := (pre).length) (bytes := 40) (m := (toksE a.e).length) (news := (toksE a.e).flatMap dTok) hpv (flat_len dTok_len _) (by first | omega | (simp only [List.length_append, List.length_singleton]; omega)) fun v3 H3 hv3 => ?_;simp (disch := omega) only [go_sem, e0, e4];refine ⟨j + 1, _, GhostS.refl _, (hI _ _ _).2 ?_, by omega⟩;simp (disch := omega) only [go_sem, e0, e4, hw1];(repeat' apply And.intro) <;> (try first | rfl | assumption | omega);rw [← List.flatMap_append, ← List.length_append] at hv3;rw [htk];exact hv3
    ·have ht : toksA a = (sepT wBar (a.c.map toksC) ++ [sTok wArrow]) ++ toksE a.e := by
      have hb2 : wTok wArrow = sTok wArrow := by rw [wTok, show kindW wArrow = 4 by decide +kernel]; rfl
      rw [toksA_eq, if_neg (by simpa using kc), hb2]; simp
     have hne : 0 < a.c.length := List.length_pos_iff.2 kc;have hnc : (0 : Int) < (a.c.length : Int) := by omega
     have hcs : rightCs a.c = true := by
      rcases Bool.or_eq_true _ _ ▸ hrc with h | h
      ·exact absurd (by simpa using h) kc
      ·exact h
     obtain ⟨hc16, hcr⟩ : a.c.length ≤ 16 ∧ ∀ c ∈ a.c, rightC a.c.length c = true := by
      unfold rightCs at hcs;simp only [Bool.and_eq_true, decide_eq_true_eq, List.all_eq_true] at hcs;exact ⟨hcs.1.2, hcs.2⟩
     rw [ht, ← List.append_assoc] at htk;rw [ht, List.length_append, List.length_append, List.length_singleton] at hle;simp (disch := omega) only [go_sem, e0, e4, hcl, hget, hfl, hgl, Int.toNat_natCast, hnc];refine DCalls.monoR ((rchoiceT_own G _ a.c (n := a.c.length) (by omega) hcr hokc (by omega)).frozenJ) ?_;try simp (disch := omega) only [go_sem, e0, e4, hcl, hget, hfl, hgl, Int.toNat_natCast, hnc, dTok]
     refine DCalls.monoR (wsym_spec G _ wArrow) ?_;try simp (disch := omega) only [go_sem, e0, e4, hcl, hget, hfl, hgl, Int.toNat_natCast, hnc, dTok]
     intro q1 hq1; dsimp only at hq1;try simp (disch := omega) only [go_sem, e0, e4, repl1, List.drop_succ_cons, List.drop_zero, List.drop_nil, List.append_nil]
     refine DCalls.monoR (one1 G _ (sTok wArrow) hq1) ?_;try simp (disch := omega) only [go_sem, e0, e4, hcl, hget, hfl, hgl, Int.toNat_natCast, hnc, dTok]
     obtain ⟨hc1, -⟩ := hpv.cell1;simp (disch := omega) only [go_sem, hc1, dToks, repl1, repl2, repl3, List.length_cons, List.length_nil, List.drop_succ_cons, List.drop_zero, List.drop_nil, List.append_nil, List.cons_append, List.nil_append];intro q2 hq2; dsimp only at hq2;try simp (disch := omega) only [go_sem, e0, e4, hcl, hget, hfl, hgl, Int.toNat_natCast, hnc]
     have hpv2 := fun z => hpv.new hq2 z;obtain ⟨cs, hcsd⟩ : ∃ cs, cs = sepT wBar (a.c.map toksC) := ⟨_, rfl⟩;rw [← hcsd] at htk hle ⊢
     have hj : [pre, cs, [sTok wArrow]].flatten.length ≤ 100000000 := by
      simp only [List.flatten_cons, List.flatten_nil, List.length_append, List.length_cons, List.length_nil]; omega
     have hk0 : K q2 = none := by
      rcases hkq : K q2 with _ | o
      ·rfl
      ·have := hpv.keep hkq; rw [hq2] at this; cases this
     refine (Seens.call (hpv2 _).sub (.cons (Seen.cells (e := 28) (size := 1) (n := 3) (cs' := [dToks pre, dToks cs, dToks [sTok wArrow]]) (hpv2 _).sub hk0 (upd_same _ _ _) rfl (.cons (.own (hpv2 _)) (.keep (hpv2 _).sub _))) .nil) (join_own G K [pre, cs, [sTok wArrow]] (by simp) hj)).mono ?_;rintro _ H9 ⟨v2, rfl, hv2⟩;simp (disch := omega) only [go_sem, e0, e4, hcl, hget, hfl, hgl, Int.toNat_natCast, hnc];have hf3 : [pre, cs, [sTok wArrow]].flatten = pre ++ (cs ++ [sTok wArrow]) := by simp
     rw [hf3] at hv2;refine DCalls.monoR (ho2 _) ?_;simp (disch := omega) only [go_sem, dToks, toks_take_all, toks_all_one, ht4];refine OwnJ.append (n := (pre ++ (cs ++ [sTok wArrow])).length) (bytes := 40) (m := (toksE a.e).length) (news := (toksE a.e).flatMap dTok) hv2 (flat_len dTok_len _) (by first | omega | (simp only [List.length_append, List.length_singleton]; omega)) fun v3 H3 hv3 => ?_;simp (disch := omega) only [go_sem, e0, e4];refine ⟨j + 1, _, GhostS.refl _, (hI _ _ _).2 ?_, by omega⟩;simp (disch := omega) only [go_sem, e0, e4, hw1];(repeat' apply And.intro) <;> (try first | rfl | assumption | omega);rw [← List.flatMap_append, ← List.length_append] at hv3;rw [htk];exact hv3
  ·have : j = l.length := by omega
   subst this;have hlt' : ¬ (l.length : Int) < (l.length : Int) := by omega
   rw [List.take_length] at hv;simp (disch := omega) only [go_sem, e0, e4, hlt', dAl];exact DFin.refl ⟨_, rfl, hv⟩
end
end Go.Dl
