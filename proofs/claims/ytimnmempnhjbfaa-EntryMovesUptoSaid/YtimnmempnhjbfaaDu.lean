/-
  THE DATA LEVEL, PART U: append.
-/
import Derived.Test.YtimnmempnhjbfaaDt
set_option linter.unusedSimpArgs false
set_option linter.unusedVariables false
namespace Go.Dl
open Go

section
variable {P : Program} {G : Nat → DVal} {N : Fr}
variable {o : Oper} {s : DS} {a : Act} {w : World} {K : DK} {Q : DExit → DS → Prop} {Qx : Exit → Act → World → Prop}

/-- What is appended: its length, its cells, whatever the count of draws. -/
def Source (P : Program) (w : World) (size : Nat) (x : Value) (n : Nat) (vs : List Value) : Prop :=
  (Builtin.lenOf x).run P w = .ok n w ∧ ∀ k, (Builtin.firstCells size n x).run P { w with drawn := k } = .ok vs.toArray { w with drawn := k }

theorem holds_drawn {b off k : Nat} {xs : List Value} (h : Holds w b off xs) : Holds { w with drawn := k } b off xs := h

theorem source_rel {size : Nat} {y : DVal} {v : Value} {H : DHeap} (hH : SimHeap w H) (hv : Rel w H y v) {n : Nat} {news : List DVal} (hs : srcCells size H y = some (n, news)) (hl : news.length = n * size) :
    ∃ vs, Source P w size v n vs ∧ RelL w H news vs := by
  unfold srcCells at hs
  split at hs
  · cases hs
    simp only [Rel] at hv; subst hv
    exact ⟨[], ⟨by simp [Builtin.lenOf], fun k => by simp [Builtin.firstCells]⟩, by simp [RelL]⟩
  · cases hs
    simp only [Rel] at hv
    obtain ⟨ad, cap, rfl, _, hc⟩ := hv
    rcases hc with rfl | ⟨b, o', xs, rfl, hc, hr⟩
    · have hz : n * size = 0 := by simpa using hl.symm
      refine ⟨[], ⟨by simp [Builtin.lenOf], fun k => ?_⟩, by simp [RelL]⟩
      cases ad with
      | none => simp [Builtin.firstCells]
      | some ad =>
        simp [Builtin.firstCells, hz, loadCells, loadCellsFrom]
    · refine ⟨xs.take (n * size), ⟨by simp [Builtin.lenOf], fun k => ?_⟩, hr.take _⟩
      have hlx := hr.length
      have hlen : (xs.take (n * size)).length = n * size := by
        simp only [List.length_take] at hl ⊢; omega
      have := run_loadCells_holds (P := P) (w := { w with drawn := k }) (Holds.take (n := n * size) (holds_drawn hc.holds))
      rw [hlen] at this
      simpa [Builtin.firstCells] using this
  · rename_i sz r off n' lo
    unfold srcCellsO at hs
    split at hs <;> try (cases hs; done)
    rename_i cs e hh
    cases hs
    simp only [Rel] at hv
    obtain ⟨o', cap, rfl, _, hcap, hoff, _⟩ := hv
    obtain ⟨xs, hr, hho⟩ := hH.holds hh
    by_cases hc0 : cap = 0
    · have hn : n = 0 := by omega
      subst hn
      refine ⟨[], ⟨by simp [Builtin.lenOf], fun k => by simp [Builtin.firstCells, loadCells, loadCellsFrom]⟩, ?_⟩
      simp [RelL]
    · have : o' = off := hoff.resolve_left hc0
      subst this
      refine ⟨(xs.drop o').take (n * size), ⟨by simp [Builtin.lenOf], fun k => ?_⟩, (hr.drop _).take _⟩
      have hlx := hr.length
      have hlen : ((xs.drop o').take (n * size)).length = n * size := by
        simp only [List.length_take, List.length_drop] at hl ⊢; omega
      have h1 : Holds w r o' (xs.drop o') := by simpa using hho.drop (n := o')
      have := run_loadCells_holds (P := P) (w := { w with drawn := k }) (Holds.take (n := n * size) (holds_drawn h1))
      rw [hlen] at this
      simpa [Builtin.firstCells] using this
  · rename_i l
    cases hs
    simp only [Rel] at hv; subst hv
    have hsz : (ByteArray.mk ⟨l⟩).size = l.length := rfl
    refine ⟨l.map fun b => .int .u8 b.toNat, ⟨by simp [Builtin.lenOf, hsz], fun k => ?_⟩, ?_⟩
    · simp [Builtin.firstCells]
    · refine RelL.mk (by simp) fun i d x h1 h2 => ?_
      simp only [List.getElem?_map, Option.map_eq_some_iff] at h1 h2
      obtain ⟨b1, e1, rfl⟩ := h1
      obtain ⟨b2, e2, rfl⟩ := h2
      rw [e1] at e2; cases e2
      simp [Rel]
  · cases hs

variable {t t' e : TypeId} {ty : TypeId} {i : TypeInfo} {z : Value} {u : TypeDesc}

/-- append where there is no room: a new row. -/
theorem run_append_new (ht : P.underlying t = some (.slice e)) (hu : P.underlying t' = some u) (hu' : (∃ e', u = .slice e') ∨ u = .string) (hi : P.info? e = some i) (hz : i.zero = some z)
    {b : Option Addr} {len cap n : Nat} {x : Value} {vs : List Value} (hsrc : Source P w i.size x n vs) (hg : cap < len + n) (hfit : (len + n) * i.bytes ≤ 35184372088832) (hbytes : (len + n : Nat) ≤ 35184372088832)
    {olds : List Value} (ho : ∀ k, (Builtin.firstCells i.size len (.slice b len cap)).run P { w with drawn := k } = .ok olds.toArray { w with drawn := k }) :
    ∃ c, len + n ≤ c ∧ (Builtin.append_ #[t, t'] ty #[.slice b len cap, x]).run P w =
      .ok (.slice (some ⟨w.heap.size, 0, none⟩) (len + n) c) { w.alloc (.cells (olds.toArray ++ (vs.toArray ++ Builtin.zeroCells z.cells (c - (len + n)))) e) with drawn := w.drawn + 1 } := by
  obtain ⟨hlen, hcells⟩ := hsrc
  refine ⟨(Question.appendCap (len + n) cap e).cut (w.tape w.drawn (.appendCap (len + n) cap e)), by simp [Question.cut], ?_⟩
  have hn : ¬ (len + n ≤ cap) := by omega
  have h48 : ¬ (Builtin.nextslicecap (len + n) cap * i.bytes > 281474976710656) := by
    have := growslice_fits (need := len + n) (old := cap) (bytes := i.bytes) hg (by omega)
    omega
  have hc1 := hcells (w.drawn + 1)
  have ho1 := ho (w.drawn + 1)
  have h63 : ¬ (9223372036854775807 < ((len : Int) + (n : Int))) := by omega
  simp only [World.drew_eq] at hc1 ho1
  rcases hu' with ⟨e', rfl⟩ | rfl
  · simp [Builtin.append_, run_underlying ht, run_underlying hu, sizeOf, typeInfo, zeroValue, hi, hz, hlen, hn, h48, h63, Question.forced, hc1, ho1, newRow]
    rfl
  · simp [Builtin.append_, run_underlying ht, run_underlying hu, sizeOf, typeInfo, zeroValue, hi, hz, hlen, hn, h48, h63, Question.forced, hc1, ho1, newRow]
    rfl

/-- append where there is room: in place. -/
theorem run_append_in (ht : P.underlying t = some (.slice e)) (hu : P.underlying t' = some u) (hu' : (∃ e', u = .slice e') ∨ u = .string) (hi : P.info? e = some i)
    {b : Option Addr} {len cap n : Nat} {x : Value} {vs : List Value} (hsrc : Source P w i.size x n vs) (hg : len + n ≤ cap) {w' : World}
    (hst : (match b with | some ad => storeCells (ad.add (len * i.size)) vs 0 | none => pure ()).run P w = .ok () w') :
    (Builtin.append_ #[t, t'] ty #[.slice b len cap, x]).run P w = .ok (.slice b (len + n) cap) w' := by
  obtain ⟨hlen, hcells⟩ := hsrc
  have hc1 := hcells w.drawn
  have hw : { w with drawn := w.drawn } = w := rfl
  rw [hw] at hc1
  rcases hu' with ⟨e', rfl⟩ | rfl
  · cases b with
    | none => simp at hst; subst hst; simp [Builtin.append_, run_underlying ht, run_underlying hu, sizeOf, typeInfo, hi, hlen, hg, hc1]
    | some ad => simp at hst; simp [Builtin.append_, run_underlying ht, run_underlying hu, sizeOf, typeInfo, hi, hlen, hg, hc1, hst]
  · cases b with
    | none => simp at hst; subst hst; simp [Builtin.append_, run_underlying ht, run_underlying hu, sizeOf, typeInfo, hi, hlen, hg, hc1]
    | some ad => simp at hst; simp [Builtin.append_, run_underlying ht, run_underlying hu, sizeOf, typeInfo, hi, hlen, hg, hc1, hst]

theorem notInt_cases {u : Option TypeDesc} (h : notInt u = true) : ∃ d, u = some d ∧ ((∃ e', d = .slice e') ∨ d = .string) := by
  cases u with
  | none => cases h
  | some d => cases d <;> first | (exact ⟨_, rfl, .inl ⟨_, rfl⟩⟩) | (exact ⟨_, rfl, .inr rfl⟩) | (cases h; done)

/-- A block of the call's own, grown in place: its first cells stay, new ones follow, over spare room. -/
theorem store_grow {H : DHeap} (hH : SimHeap w H) {r p : Nat} {cs ds : List DVal} {e : TypeId} (hr : H r = some (.cells cs e)) {vs : List Value} (hv : RelL w H ds vs) (h1 : ds.all (·.one) = true) (hp : p ≤ cs.length)
    (hroom : ∀ c fz, w.heap[r]? = some (.cells c e fz) → p + ds.length ≤ c.size) {cs' : List DVal} (hcs : cs' = cs.take p ++ ds) :
    ∃ w', (storeCells ⟨r, p, none⟩ vs 0).run P w = .ok () w' ∧ SimHeap w' (upd (upd H r none) r (some (.cells cs' e))) ∧ Ext H w (upd (upd H r none) r (some (.cells cs' e))) w' := by
  subst hcs
  obtain ⟨xs, c, fz, g1, g2, g3, g4⟩ := hH r _ hr
  obtain ⟨tl, htl⟩ := g2
  have hlx := g3.length
  have hlv := hv.length
  have hcs : c.size = xs.length + tl.length := by rw [← Array.length_toList, ← htl]; simp
  have hrm := hroom c fz g1
  obtain ⟨w', c', hrun, hheap, hlist, hother, hsize, hos, htape, hout⟩ := run_storeCells_own (P := P) r p e fz vs 0 c w g1 (by omega) (relL_one hv h1) g4
  have hcsz : c'.size = c.size := by
    rw [← Array.length_toList, hlist]; simp; omega
  have hupd : upd (upd H r none) r (some (.cells (cs.take p ++ ds) e)) = upd H r (some (.cells (cs.take p ++ ds) e)) := by
    funext j; simp only [upd]; split <;> rfl
  rw [hupd]
  have hE : Ext H w (upd H r (some (.cells (cs.take p ++ ds) e))) w' := by
    refine ⟨hos, htape, hout, by omega, fun b hb hn => hother b (fun hbr => by subst hbr; rw [hr] at hn; cases hn), fun b hb => ?_, fun b hb => ?_, fun a => by
      unfold World.frozen?
      by_cases hbr : a.block = r
      · rw [hbr, hheap, g1]
      · rw [hother _ hbr]⟩
    · by_cases hbr : b = r
      · subst hbr; exact .inl (by rw [hr]; simp)
      · simp only [upd, if_neg hbr] at hb; exact .inl hb
    · by_cases hbr : b = r
      · subst hbr; rw [hheap, g1]; simp [csize, hcsz]
      · rw [hother b hbr]
  refine ⟨w', hrun, fun r' o' ho' => ?_, hE⟩
  by_cases hbr : r' = r
  · subst hbr
    simp only [upd, if_pos] at ho'
    cases ho'
    refine ⟨xs.take p ++ vs, c', fz, hheap, ?_, (RelL.lasts hE.lasts _ _ (g3.take p)).append (RelL.lasts hE.lasts _ _ hv), by rw [hcsz]; exact g4⟩
    refine ⟨c.toList.drop (p + 0 + vs.length), ?_⟩
    rw [hlist, ← htl, Nat.add_zero, List.take_append_of_le_length (by omega)]
  · simp only [upd, if_neg hbr] at ho'
    rw [hother r' hbr]
    exact (hH r' o' ho').lasts hE.lasts

/-- A block is let go. -/
theorem SimHeap.letGo {H : DHeap} (hH : SimHeap w H) (r : Nat) : SimHeap w (upd H r none) := by
  have hl : Lasts H w (upd H r none) w := ⟨fun b i x hb hc => ⟨by simp only [upd]; split; rfl; exact hb, hc⟩, Nat.le_refl _, fun _ _ => rfl⟩
  intro r' o' ho'
  by_cases hbr : r' = r
  · subst hbr; simp [upd] at ho'
  · simp only [upd, if_neg hbr] at ho'
    exact (hH r' o' ho').lasts hl

theorem ext_letGo {H : DHeap} (r : Nat) : Ext H w (upd H r none) w :=
  ⟨rfl, rfl, rfl, Nat.le_refl _, fun _ _ _ => rfl, fun b hb => .inl (by simp only [upd] at hb; split at hb <;> simp_all), fun _ _ => rfl, fun _ => rfl⟩

theorem firstCells_none (size : Nat) (k : Nat) : (Builtin.firstCells size 0 (.slice none 0 0)).run P { w with drawn := k } = .ok #[] { w with drawn := k } := by simp [Builtin.firstCells]

theorem prefix_app {α : Type} (l m : List α) : l <+: l ++ m := ⟨m, rfl⟩

theorem s_append (hS : Sim G N s a w) (hd : dstOk N o.dst = true) {c : Call} {x y : Operand} (hx : opdOk N x = true) (hy : opdOk N y = true) (he : o.op = .call c) (hc : c.callee = .builtin .append) (hargs : c.args.toList = [x, y]) {t t' : TypeId} (htys : c.argTypes.toList = [t, t'])
    (h : dAppend P (notInt (P.underlying t')) (dev G s.env x) (dev G s.env y) o.dst (P.underlying t) K s) : o.wp P a w (NextS G N K s w) Qx := by
  have rx := rel_dev hS hx
  have ry := rel_dev hS hy
  have hm : c.args.map a.eval = #[a.eval x, a.eval y] := by apply Array.ext'; simp [hargs]
  have hat : c.argTypes = #[t, t'] := by apply Array.ext'; simp [htys]
  have hex : execOp a.eval o = (do pure (.value (← Builtin.append_ #[t, t'] o.type #[a.eval x, a.eval y]))) := by
    rw [exec_builtin he hc, hm, hat]; rfl
  generalize hut : P.underlying t = ut at h
  unfold dAppend at h
  split at h <;> try exact h.elim
  rename_i e
  obtain ⟨hni, hzs, hzc, hpos, hbpos, h⟩ := h
  obtain ⟨u, hu, hu'⟩ := notInt_cases hni
  obtain ⟨zd, hz⟩ := Option.isSome_iff_exists.1 hzs
  rw [hz] at hzc
  simp only [Option.all_some, decide_eq_true_eq] at hzc
  obtain ⟨i, z, hi, hiz, rfl⟩ := zero_info hz
  have hcsz : P.cellsOf e = i.size := by simp [Program.cellsOf, hi]
  have hbsz : P.bytesOf e = i.bytes := by simp [Program.bytesOf, hi]
  have hzlen : z.cells.size = i.size := by
    have := (cells_rel (rel_ofVal w s.heap z)).length
    rw [← hcsz, ← hzc, this]; simp
  rw [hcsz, hbsz] at h
  rw [hcsz] at hpos
  rw [hbsz] at hbpos
  cases hsc : srcCells i.size s.heap (dev G s.env y) with
  | none => rw [hsc] at h; exact h.elim
  | some nn =>
    obtain ⟨n, news⟩ := nn
    rw [hsc] at h
    obtain ⟨hnl, hone, h⟩ := h
    obtain ⟨vs, hsrc, hrel⟩ := source_rel (P := P) hS.heap ry hsc hnl
    have hvl := hrel.length
    generalize dev G s.env x = dx at h rx
    unfold dAppendTo at h
    split at h
    · -- nil
      obtain ⟨h0, h1⟩ := h
      simp only [Rel] at rx
      by_cases hn : n = 0
      · have hK := h0 hn
        subst hn
        have hvs : vs = [] := List.length_eq_zero_iff.1 (by omega)
        subst hvs
        have hrun := run_append_in (ty := o.type) (b := none) (len := 0) (cap := 0) hut hu hu' hi hsrc (by omega) (w' := w) (by simp)
        refine op_value hS hd (x := .slice none 0 0) ?_ (by simp [Rel]) hK
        rw [hex, rx]; simp [hrun]
      · obtain ⟨hfit, hK⟩ := h1 hn
        have hn45 : n ≤ 35184372088832 := Nat.le_trans (Nat.le_mul_of_pos_right n hbpos) hfit
        obtain ⟨cp, hcp, hrun⟩ := run_append_new (ty := o.type) (b := none) (len := 0) (cap := 0) (olds := []) hut hu hu' hi hiz hsrc (by omega) (by simpa using hfit) (by omega) (fun k => firstCells_none i.size k)
        refine op_newS hS hd (sz := i.size) (lo := n) (cap := cp) (n := w.drawn + 1) (len := n) (e := e) (c := #[] ++ (vs.toArray ++ Builtin.zeroCells z.cells (cp - (0 + n)))) (by omega) (by omega) ?_ ?_ hrel ?_ hK
        · simp only [Array.size_append, size_zeroCells, hzlen, List.size_toArray, List.length_nil, Nat.zero_add]
          have : vs.length = n * i.size := by omega
          rw [this, ← Nat.add_mul]
          exact Nat.mul_le_mul_right _ (by omega)
        · rw [hex, rx]
          simp only [Nat.zero_add] at hrun
          simp [hrun]
        · simp only [Array.toList_append, List.nil_append]
          exact prefix_app _ _
    · -- a slice of the call's own
      rename_i sz r off len lo
      obtain ⟨rfl, h⟩ := h
      simp only [Rel] at rx
      obtain ⟨o', cap, hp, hlo, hcap, hoff, hroom⟩ := rx
      cases hh : s.heap r with
      | none => rw [hh] at h; exact h.elim
      | some ob =>
        cases ob with
        | loop => rw [hh] at h; exact h.elim
        | map => rw [hh] at h; exact h.elim
        | cells cs e' =>
          rw [hh] at h
          obtain ⟨rfl, hin, hout⟩ := h
          by_cases hle : len + n ≤ lo
          · -- in place, within what is known
            obtain ⟨hfits, hK⟩ := hin hle
            have hmul : (len + n) * i.size = len * i.size + n * i.size := Nat.add_mul _ _ _
            by_cases hc0 : cap = 0
            · have hl0 : len = 0 := by omega
              have hn0 : n = 0 := by omega
              subst hl0; subst hn0
              have hvs : vs = [] := List.length_eq_zero_iff.1 (by omega)
              have hns : news = [] := List.length_eq_zero_iff.1 (by omega)
              subst hvs; subst hns
              have hrun := run_append_in (ty := o.type) (b := some ⟨r, o', none⟩) (len := 0) (cap := cap) hut hu hu' hi hsrc (by omega) (w' := w) (by simp [storeCells])
              have hsp : splice cs (off + 0 * i.size) [] = cs := by simp [splice]
              have hup : upd s.heap r (some (.cells (splice cs (off + 0 * i.size) []) e')) = s.heap := by
                funext j; rw [hsp]; simp only [upd]; split
                · rename_i hj; rw [hj, hh]
                · rfl
              rw [hup] at hK
              refine op_value hS hd (x := .slice (some ⟨r, o', none⟩) 0 cap) ?_ ?_ hK
              · rw [hex, hp]; simp [hrun]
              · simp only [Rel]; exact ⟨o', cap, rfl, hlo, by omega, hoff, hroom⟩
            · have : o' = off := hoff.resolve_left hc0
              subst this
              obtain ⟨w', hst, hH, hE⟩ := store_own (P := P) hS.heap hh hrel hone (off := o' + len * i.size) (by omega)
              have hrun := run_append_in (ty := o.type) (b := some ⟨r, o', none⟩) (len := len) (cap := cap) hut hu hu' hi hsrc (by omega) (w' := w') (by simpa [add_lit] using hst)
              refine op_world hS hd (x := .slice (some ⟨r, o', none⟩) (len + n) cap) ?_ hE hH ?_ hK
              · rw [hex, hp]; simp [hrun]
              · simp only [Rel]; exact ⟨o', cap, rfl, hlo, by omega, .inr rfl, hE.lasts.room hroom⟩
          · -- the room is not known
            obtain ⟨hfits, hfit, hK⟩ := hout hle
            have hn45 : len + n ≤ 35184372088832 := Nat.le_trans (Nat.le_mul_of_pos_right _ hbpos) hfit
            obtain ⟨xs, hxr, hxh⟩ := hS.heap.holds hh
            have hxl := hxr.length
            by_cases hin' : len + n ≤ cap
            · -- in place
              have : o' = off := hoff.resolve_left (by omega)
              subst this
              have hrm : ∀ c fz, w.heap[r]? = some (.cells c e' fz) → o' + len * i.size + news.length ≤ c.size := by
                intro c fz hcc
                have := hroom.2 c.size (by rw [hcc]; rfl)
                have h2 : (len + n) * i.size ≤ cap * i.size := Nat.mul_le_mul_right _ hin'
                rw [Nat.add_mul] at h2
                omega
              obtain ⟨w', hst, hH, hE⟩ := store_grow (P := P) hS.heap hh hrel hone (p := o' + len * i.size) hfits hrm (cs' := cs.take o' ++ (cs.drop o').take (len * i.size) ++ news) (by rw [List.take_add])
              have hrun := run_append_in (ty := o.type) (b := some ⟨r, o', none⟩) (len := len) (cap := cap) hut hu hu' hi hsrc hin' (w' := w') (by simpa [add_lit] using hst)
              have hK' := hK r (cs.take o') (by simp [upd]) (fun e0 => by simp [e0])
              have hlt : (cs.take o').length = o' := by simp; omega
              rw [hlt] at hK'
              refine op_world hS hd (x := .slice (some ⟨r, o', none⟩) (len + n) cap) ?_ hE hH ?_ hK'
              · rw [hex, hp]; simp [hrun]
              · simp only [Rel]; exact ⟨o', cap, rfl, by omega, by omega, .inr rfl, hE.lasts.room hroom⟩
            · -- a new row
              have holds : ∃ olds, RelL w s.heap ((cs.drop off).take (len * i.size)) olds ∧ olds.length = len * i.size ∧ ∀ k, (Builtin.firstCells i.size len (.slice (some ⟨r, o', none⟩) len cap)).run P { w with drawn := k } = .ok olds.toArray { w with drawn := k } := by
                by_cases hc0 : cap = 0
                · have hl0 : len = 0 := by omega
                  subst hl0
                  exact ⟨[], by simp [RelL], by simp, fun k => by simp [Builtin.firstCells, loadCells, loadCellsFrom]⟩
                · have : o' = off := hoff.resolve_left hc0
                  subst this
                  have hlen : ((xs.drop o').take (len * i.size)).length = len * i.size := by
                    simp only [List.length_take, List.length_drop]; omega
                  refine ⟨_, (hxr.drop _).take _, hlen, fun k => ?_⟩
                  have h1 : Holds w r o' (xs.drop o') := by simpa using hxh.drop (n := o')
                  have := run_loadCells_holds (P := P) (w := { w with drawn := k }) (Holds.take (n := len * i.size) (holds_drawn h1))
                  rw [hlen] at this
                  simpa [Builtin.firstCells] using this
              obtain ⟨olds, hor, hol, hof⟩ := holds
              obtain ⟨cp, hcp, hrun⟩ := run_append_new (ty := o.type) hut hu hu' hi hiz hsrc (by omega) hfit hn45 hof
              have hH0 := hS.heap.letGo r
              have hE0 : Ext s.heap w (upd s.heap r none) w := ext_letGo r
              have hfr := hH0.fresh
              have hK' := hK w.heap.size [] hfr (fun _ => rfl)
              simp only [List.nil_append, List.length_nil] at hK'
              have hcont : RelL w (upd s.heap r none) ((cs.drop off).take (len * i.size) ++ news) (olds ++ vs) :=
                (RelL.lasts hE0.lasts _ _ hor).append (RelL.lasts hE0.lasts _ _ hrel)
              have hpre : (olds ++ vs) <+: (olds.toArray ++ (vs.toArray ++ Builtin.zeroCells z.cells (cp - (len + n)))).toList := by
                simp only [Array.toList_append, ← List.append_assoc]
                exact prefix_app _ _
              have hsize : cp * i.size ≤ (olds.toArray ++ (vs.toArray ++ Builtin.zeroCells z.cells (cp - (len + n)))).size := by
                simp only [Array.size_append, size_zeroCells, hzlen, List.size_toArray, hol]
                have h1 : vs.length = n * i.size := by omega
                rw [h1, ← Nat.add_mul, ← Nat.add_mul]
                exact Nat.mul_le_mul_right _ (by omega)
              refine op_world hS hd (x := .slice (some ⟨w.heap.size, 0, none⟩) (len + n) cp) ?_ ((hE0.trans (ext_alloc hH0 _ _ _)).drawn (w.drawn + 1)) ((simHeap_alloc hH0 hcont _ hpre e').drawn (w.drawn + 1)) ?_ hK'
              · rw [hex, hp]; simp [hrun]
              · simp only [Rel]
                refine ⟨0, cp, rfl, by omega, by omega, .inr rfl, ?_⟩
                constructor
                · show w.heap.size < (w.alloc _).heap.size
                  simp
                · intro k hk
                  have h1 : (w.alloc (.cells (olds.toArray ++ (vs.toArray ++ Builtin.zeroCells z.cells (cp - (len + n)))) e')).heap[w.heap.size]? = some (.cells (olds.toArray ++ (vs.toArray ++ Builtin.zeroCells z.cells (cp - (len + n)))) e') := by
                    show (w.heap.push _)[w.heap.size]? = _
                    simp
                  have hk' : csize (w.alloc (.cells (olds.toArray ++ (vs.toArray ++ Builtin.zeroCells z.cells (cp - (len + n)))) e')).heap[w.heap.size]? = some k := hk
                  rw [h1] at hk'
                  simp only [csize, Option.some.injEq] at hk'
                  omega
    · exact h.elim

end
end Go.Dl
