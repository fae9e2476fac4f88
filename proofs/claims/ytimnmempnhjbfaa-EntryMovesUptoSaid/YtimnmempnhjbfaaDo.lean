/-
  THE DATA LEVEL, PART O: each operation: what the data level asks and does is true of the model's operation.
-/
import Derived.Test.YtimnmempnhjbfaaDs
set_option linter.unusedSimpArgs false
set_option linter.unusedVariables false
namespace Go.Dl
open Go

section
variable {P : Program} {G : Nat → DVal} {N : Fr}
variable {o : Oper} {s : DS} {a : Act} {w : World} {K : DK} {Qx : Exit → Act → World → Prop}

theorem dputO_some {dst : Option Nat} {v : Option DVal} (h : dputO dst v K s) : ∃ d, v = some d ∧ dput dst d K s := by
  cases v with
  | none => exact h.elim
  | some d => exact ⟨d, rfl, h⟩

theorem holds_at {w : World} {b off : Nat} {xs : List Value} (h : Holds w b off xs) {i : Nat} {x : Value} (hx : xs[i]? = some x) : w.cell? ⟨b, off + i, none⟩ = some x := h i x hx

-- move, assign, pick
theorem s_move (hS : Sim G N s a w) (hd : dstOk N o.dst = true) {x : Operand} (hx : opdOk N x = true) (he : o.op = .move x) (h : dput o.dst (dev G s.env x) K s) : PV P o s a w K :=
  pvI hS hd (by simp [execOp, he]) (rel_dev hS hx) h
theorem s_assign (hS : Sim G N s a w) (hd : dstOk N o.dst = true) {x : Operand} (hx : opdOk N x = true) (he : o.op = .assign x) (h : dput o.dst (dev G s.env x) K s) : PV P o s a w K :=
  pvI hS hd (by simp [execOp, he]) (rel_dev hS hx) h
theorem s_pick (hS : Sim G N s a w) (hd : dstOk N o.dst = true) {c x y : Operand} (hc : opdOk N c = true) (hx : opdOk N x = true) (hy : opdOk N y = true) (he : o.op = .pick c x y)
    (h : dPick o.dst (dev G s.env c) (dev G s.env x) (dev G s.env y) K s) : PV P o s a w K := by
  have r := rel_dev hS hc
  cases hcv : dev G s.env c <;> rw [hcv] at h r <;> try exact h.elim
  rename_i t
  simp only [Rel] at r
  simp only [dPick] at h
  refine pvI hS hd (x := if t then a.eval x else a.eval y) (by simp [execOp, he, r, asBool]) ?_ h
  cases t
  · exact rel_dev hS hy
  · exact rel_dev hS hx

theorem cells_rel {H : DHeap} {d : DVal} {v : Value} (h : Rel w H d v) : RelL w H d.cells v.cells.toList := Rel.cells h

-- new variables
theorem s_alloc (hS : Sim G N s a w) (hd : dstOk N o.dst = true) {e : TypeId} (he : o.op = .alloc e) (h : dAlloc e o.dst (zeroOf P e) K s) : o.wp P a w (NextS G N K s w) Qx := by
  cases hz : zeroOf P e with
  | none => rw [hz] at h; exact h.elim
  | some z =>
    rw [hz] at h
    obtain ⟨v, hv, rfl⟩ := run_zero (w := w) hz
    refine op_newP hS hd (c := v.cells) ?_ ?_ h
    · simp [execOp, he, Instr.alloc, hv, newVar, newRow]
    · exact cells_rel (rel_ofVal w s.heap v)

theorem s_box (hS : Sim G N s a w) (hd : dstOk N o.dst = true) {e : TypeId} {x : Operand} (hx : opdOk N x = true) (he : o.op = .box e x)
    (h : DNewP (dev G s.env x).cells e o.dst K s) : o.wp P a w (NextS G N K s w) Qx :=
  op_newP hS hd (c := (a.eval x).cells) (by simp [execOp, he, Instr.box, newVar, newRow]) (cells_rel (rel_dev hS hx)) h

-- loads
theorem load_at {size : Nat} {ag : Option Bool} {t : TypeId} (hag : aggB P t = ag) (hsz : P.cellsOf t = size) {b off : Nat} {cs : List DVal} {xs : List Value} {H : DHeap} (hr : RelL w H cs xs) (hh : Holds w b off xs) {i : Nat} {dst : Option Nat}
    (h : dLoadC size dst ag cs i K s) : ∃ d x, (loadVar t ⟨b, off + i, none⟩).run P w = .ok x w ∧ Rel w H d x ∧ dput dst d K s := by
  subst hsz
  cases ag with
  | none => exact h.elim
  | some ag =>
    cases ag with
    | true =>
      obtain ⟨hle, hK⟩ := h
      have hx : Holds w b (off + i) ((xs.drop i).take (P.cellsOf t)) := hh.drop.take
      have hl : ((xs.drop i).take (P.cellsOf t)).length = P.cellsOf t := by
        have := hr.length
        simp; omega
      refine ⟨_, _, run_loadVar_agg hag hx hl, ?_, hK⟩
      simp only [Rel]
      exact ⟨_, rfl, (hr.drop i).take _⟩
    | false =>
      obtain ⟨d, hd, hK⟩ := dputO_some h
      obtain ⟨x, hx, hrel⟩ := hr.get hd
      exact ⟨d, x, run_loadVar_one hag (hh i x hx), hrel, hK⟩

theorem s_load (hS : Sim G N s a w) (hd : dstOk N o.dst = true) {t : TypeId} {x : Operand} (hx : opdOk N x = true) (he : o.op = .load t x)
    (h : dLoad (P.cellsOf t) (aggB P t) o.dst (dev G s.env x) K s) : PV P o s a w K := by
  have r := rel_dev hS hx
  cases hv : dev G s.env x <;> rw [hv] at h r <;> try exact h.elim
  case vptr cs off =>
    simp only [Rel] at r
    obtain ⟨b, o', xs, hp, hc, hl⟩ := r
    obtain ⟨d, y, hrun, hrel, hK⟩ := load_at (P := P) (t := t) rfl rfl hl hc.holds h
    refine pvI hS hd ?_ hrel hK
    simp [execOp, he, hp, Instr.loadAt, Instr.sureAddr, hrun]
  case optr r0 off =>
    simp only [Rel] at r
    simp only [dLoad] at h
    cases hh : s.heap r0 with
    | none => rw [hh] at h; exact h.elim
    | some ob =>
      rw [hh] at h
      cases ob with
      | loop => exact h.elim
      | map => exact h.elim
      | cells cs e =>
        obtain ⟨xs, hl, hholds⟩ := hS.heap.holds hh
        obtain ⟨d, y, hrun, hrel, hK⟩ := load_at (P := P) (t := t) rfl rfl hl hholds h
        refine pvI hS hd ?_ hrel hK
        simp only [Nat.zero_add] at hrun
        simp [execOp, he, r, Instr.loadAt, Instr.sureAddr, hrun]

-- stores
theorem run_storeCells_own (r off : Nat) (e : TypeId) (fz : Nat × Nat) : ∀ (vs : List Value) (i : Nat) (c : Array Value) (w : World), w.heap[r]? = some (.cells c e fz) → off + i + vs.length ≤ c.size →
    (∀ v ∈ vs, v.oneCell' = true) → (∀ j, j < c.size → ¬ (fz.1 ≤ j ∧ j < fz.2)) →
    ∃ (w' : World) (c' : Array Value), (storeCells ⟨r, off, none⟩ vs i).run P w = .ok () w' ∧ w'.heap[r]? = some (.cells c' e fz) ∧ c'.toList = c.toList.take (off + i) ++ vs ++ c.toList.drop (off + i + vs.length) ∧
      (∀ b, b ≠ r → w'.heap[b]? = w.heap[b]?) ∧ w'.heap.size = w.heap.size ∧ w'.os = w.os ∧ w'.tape = w.tape ∧ w'.output = w.output
  | [], i, c, w, hc, hl, _, _ => ⟨w, c, by simp [storeCells], hc, by simp, fun _ _ => rfl, rfl, rfl, rfl, rfl⟩
  | v :: vs, i, c, w, hc, hl, h1, hf => by
    simp only [List.length_cons] at hl
    have hi : off + i < c.size := by omega
    have hcell : w.cell? ⟨r, off + i, none⟩ = some c[off + i] := by simp [World.cell?, hc, hi]
    have hfr : w.frozen? ⟨r, off + i, none⟩ = false := by
      have := hf (off + i) hi
      obtain ⟨lo, hi'⟩ := fz
      simp [World.frozen?, hc]
      intro h2
      have := fun h3 => this ⟨h2, h3⟩
      simp at this; omega
    have hset : (w.setCell ⟨r, off + i, none⟩ v).heap[r]? = some (.cells (c.setIfInBounds (off + i) v) e fz) := by
      simp [World.setCell, Array.getElem?_modify, hc]
    obtain ⟨w', c', hrun, hheap, hlist, hother, hsize, hos, htape, hout⟩ := run_storeCells_own r off e fz vs (i + 1) (c.setIfInBounds (off + i) v) _ hset (by simp; omega) (fun u hu => h1 u (List.mem_cons_of_mem _ hu)) (by simpa using hf)
    refine ⟨w', c', ?_, hheap, ?_, fun b hb => ?_, by rw [hsize]; simp, hos, htape, hout⟩
    · simp only [storeCells, Sem.run_bind, add_lit, run_store P w _ v _ (h1 v (List.mem_cons_self ..)), hcell, hfr]
      simpa using hrun
    · rw [hlist]
      have hci : off + i < c.toList.length := by simpa using hi
      rw [Array.toList_setIfInBounds, List.length_cons, ← Nat.add_assoc]
      have e1 : (c.toList.set (off + i) v).take (off + i + 1) = c.toList.take (off + i) ++ [v] := by
        rw [List.take_set, List.take_succ_eq_append_getElem hci, List.set_append_right _ _ (by simp; omega)]
        have e0 : off + i - min (off + i) c.size = 0 := by omega
        simp [e0]
      have e2 : (c.toList.set (off + i) v).drop (off + i + 1 + vs.length) = c.toList.drop (off + i + (vs.length + 1)) := by
        rw [List.drop_set, if_pos (by omega)]
        congr 1; omega
      rw [e1, e2]
      simp
    · rw [hother b hb]
      exact Go.RowKit.Below.heap_setCell _ _ _ _ hb

theorem relL_one {H : DHeap} : ∀ {ds : List DVal} {xs : List Value}, RelL w H ds xs → ds.all (·.one) = true → ∀ x ∈ xs, x.oneCell' = true
  | [], _, h, _, x, hx => by simp only [RelL] at h; subst h; simp at hx
  | d :: ds, xs, h, h1, x, hx => by
    simp only [RelL] at h
    obtain ⟨y, ys, rfl, hr, hl⟩ := h
    simp only [List.all_cons, Bool.and_eq_true] at h1
    rcases List.mem_cons.1 hx with rfl | hx
    · cases d <;> simp only [Rel, DVal.one] at hr h1 <;> try (simp at h1; done)
      case raw v => obtain ⟨rfl, _⟩ := hr; exact h1.1
      case vptr => obtain ⟨_, _, _, rfl, _⟩ := hr; rfl
      case vslice => obtain ⟨_, _, rfl, _⟩ := hr; rfl
      case oslice => obtain ⟨_, _, rfl, _⟩ := hr; rfl
      case func => obtain ⟨_, _, rfl, _⟩ := hr; rfl
      case iface => obtain ⟨_, rfl, _⟩ := hr; rfl
      all_goals (subst hr; rfl)
    · exact relL_one hl h1.2 x hx

/-- A part of a block of the call's own, stored into. -/
theorem store_own {H : DHeap} (hH : SimHeap w H) {r off : Nat} {cs ds : List DVal} {e : TypeId} (hr : H r = some (.cells cs e)) {vs : List Value} (hv : RelL w H ds vs) (h1 : ds.all (·.one) = true) (hle : off + ds.length ≤ cs.length) :
    ∃ w', (storeCells ⟨r, off, none⟩ vs 0).run P w = .ok () w' ∧ SimHeap w' (upd H r (some (.cells (splice cs off ds) e))) ∧ Ext H w (upd H r (some (.cells (splice cs off ds) e))) w' := by
  obtain ⟨xs, c, fz, g1, g2, g3, g4⟩ := hH r _ hr
  obtain ⟨tl, htl⟩ := g2
  have hlx := g3.length
  have hlv := hv.length
  have hcs : c.size = xs.length + tl.length := by rw [← Array.length_toList, ← htl]; simp
  obtain ⟨w', c', hrun, hheap, hlist, hother, hsize, hos, htape, hout⟩ := run_storeCells_own (P := P) r off e fz vs 0 c w g1 (by omega) (relL_one hv h1) g4
  have hE : Ext H w (upd H r (some (.cells (splice cs off ds) e))) w' := by
    have hcsz : c'.size = c.size := by
      rw [← Array.length_toList, hlist]; simp; omega
    refine ⟨hos, htape, hout, by omega, fun b hb hn => hother b (fun hbr => by subst hbr; rw [hr] at hn; cases hn), fun b hb => ?_, fun b hb => ?_, fun a => by
      unfold World.frozen?
      by_cases hbr : a.block = r
      · rw [hbr, hheap, g1]
      · rw [hother _ hbr]⟩
    rotate_left
    · by_cases hbr : b = r
      · subst hbr; rw [hheap, g1]; simp [csize, hcsz]
      · rw [hother b hbr]
    by_cases hbr : b = r
    · subst hbr; exact .inl (by rw [hr]; simp)
    · simp only [upd, if_neg hbr] at hb; exact .inl hb
  refine ⟨w', hrun, fun r' o' ho' => ?_, hE⟩
  by_cases hbr : r' = r
  · subst hbr
    simp only [upd, if_pos] at ho'
    cases ho'
    refine ⟨xs.take off ++ vs ++ xs.drop (off + vs.length), c', fz, hheap, ?_, ?_, ?_⟩
    · refine ⟨tl, ?_⟩
      rw [hlist, ← htl, Nat.add_zero, List.take_append_of_le_length (by omega), List.drop_append_of_le_length (by omega)]
      simp
    · have e0 : splice cs off ds = cs.take off ++ ds ++ cs.drop (off + vs.length) := by unfold splice; rw [hlv]
      have e1 := ((RelL.lasts hE.lasts _ _ (g3.take off)).append (RelL.lasts hE.lasts _ _ hv)).append (RelL.lasts hE.lasts _ _ (g3.drop (off + vs.length)))
      rw [← e0] at e1
      exact e1
    · have : c'.size = c.size := by
        rw [← Array.length_toList, hlist]; simp; omega
      rw [this]; exact g4
  · simp only [upd, if_neg hbr] at ho'
    rw [hother r' hbr]
    exact (hH r' o' ho').lasts hE.lasts

theorem s_store (hS : Sim G N s a w) {t : TypeId} {x y : Operand} (hx : opdOk N x = true) (hy : opdOk N y = true) (he : o.op = .store t x y)
    (h : (P.info? t).isSome = true ∧ dStore (P.cellsOf t) o.dst (dev G s.env x) (dev G s.env y) K s) : o.wp P a w (NextS G N K s w) Qx := by
  obtain ⟨hi, h⟩ := h
  have r := rel_dev hS hx
  have ry := rel_dev hS hy
  cases hv : dev G s.env x <;> rw [hv] at h r <;> (try (cases hdst : o.dst <;> rw [hdst] at h <;> exact h.elim))
  rename_i r0 off
  cases hdst : o.dst with
  | some d => rw [hdst] at h; exact h.elim
  | none =>
    rw [hdst] at h
    simp only [Rel] at r
    simp only [dStore] at h
    cases hh : s.heap r0 with
    | none => rw [hh] at h; exact h.elim
    | some ob =>
      rw [hh] at h
      cases ob with
      | loop => exact h.elim
      | map => exact h.elim
      | cells cs e =>
        obtain ⟨hl, h1, hle, hK⟩ := h
        have rc := cells_rel ry
        obtain ⟨w', hrun, hH, hE⟩ := store_own (P := P) hS.heap hh rc h1 (off := off) (by omega)
        have hlen : (a.eval y).cells.size = P.cellsOf t := by rw [← hl, rc.length]; simp
        unfold Oper.wp
        have : (execOp a.eval o).run P w = .ok .skip w' := by
          simp [execOp, he, r, Instr.storeAt, Instr.sureAddr, storeVar, run_sizeOf hi, hlen, hrun]
        rw [this]
        show NextS G N K s w (a.put o.dst undef) w'
        rw [hdst]
        exact ⟨_, hK, hS.ext hE hH, hE⟩

end
end Go.Dl
