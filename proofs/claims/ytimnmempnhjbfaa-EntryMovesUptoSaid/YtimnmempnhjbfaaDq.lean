/-
  THE DATA LEVEL, PART Q: further operations: structs, addresses, slices.
-/
import Derived.Test.YtimnmempnhjbfaaDp
set_option linter.unusedSimpArgs false
set_option linter.unusedVariables false
namespace Go.Dl
open Go

section
variable {P : Program} {G : Nat → DVal} {N : Fr}
variable {o : Oper} {s : DS} {a : Act} {w : World} {K : DK} {Qx : Exit → Act → World → Prop}

theorem repl_length (n : Nat) (zs : List DVal) : (repl n zs).length = n * zs.length := by
  unfold repl
  induction n with
  | zero => simp
  | succ n ih => simp [List.replicate_succ, ih, Nat.succ_mul]; omega

theorem repl_get (n : Nat) (zs : List DVal) (i : Nat) (hi : i < n * zs.length) : (repl n zs)[i]? = zs[i % zs.length]? := by
  induction n generalizing i with
  | zero => simp at hi
  | succ n ih =>
    have hr : repl (n + 1) zs = zs ++ repl n zs := by simp [repl, List.replicate_succ]
    rw [hr]
    by_cases h : i < zs.length
    · rw [List.getElem?_append_left h, Nat.mod_eq_of_lt h]
    · have e : (n + 1) * zs.length = n * zs.length + zs.length := Nat.succ_mul _ _
      rw [List.getElem?_append_right (by omega), ih (i - zs.length) (by omega)]
      congr 1
      exact (Nat.mod_eq_sub_mod (by omega)).symm

theorem relL_repl {H : DHeap} {zs : List DVal} {vs : Array Value} (h : RelL w H zs vs.toList) (n m : Nat) (hm : m = n * zs.length) :
    RelL w H (repl n zs) ((Array.range m).map (vs[· % vs.size]!)).toList := by
  have hl := h.length
  refine RelL.mk (by simp [repl_length, hm]) fun i d x h1 h2 => ?_
  have hi : i < m := by
    rcases Nat.lt_or_ge i m with h' | h'
    · exact h'
    · rw [List.getElem?_eq_none (by rw [repl_length]; omega)] at h1; cases h1
  have hz : 0 < zs.length := by
    rcases Nat.eq_zero_or_pos zs.length with e | e
    · rw [e] at hm; simp at hm; omega
    · exact e
  rw [repl_get n zs i (by omega)] at h1
  obtain ⟨y, hy, hr⟩ := h.get h1
  have hsz : vs.size = zs.length := by rw [hl]; simp
  have : x = y := by
    have h3 : ((Array.range m).map (vs[· % vs.size]!)).toList[i]? = some (vs[i % vs.size]!) := by simp [hi]
    rw [h3] at h2
    cases h2
    have hlt : i % vs.size < vs.size := Nat.mod_lt _ (by omega)
    have : vs.toList[i % zs.length]? = some (vs[i % vs.size]!) := by
      rw [← hsz]; simp [hlt]
    rw [this] at hy; cases hy; rfl
  subst this; exact hr

-- structs and arrays out of their parts
theorem foldl_set (vs : List Value) : ∀ (j off : Nat) (c : Array Value), off + j + vs.length ≤ c.size →
    ((vs.zipIdx j).foldl (fun cs (p : Value × Nat) => cs.setIfInBounds (off + p.2) p.1) c).toList = c.toList.take (off + j) ++ vs ++ c.toList.drop (off + j + vs.length) := by
  induction vs with
  | nil => intro j off c _; simp
  | cons v vs ih =>
    intro j off c h
    simp only [List.length_cons] at h
    simp only [List.zipIdx_cons, List.foldl_cons]
    rw [ih (j + 1) off _ (by simp; omega)]
    have hci : off + j < c.toList.length := by simp; omega
    rw [Array.toList_setIfInBounds, List.length_cons, ← Nat.add_assoc]
    have e1 : (c.toList.set (off + j) v).take (off + j + 1) = c.toList.take (off + j) ++ [v] := by
      rw [List.take_set, List.take_succ_eq_append_getElem hci, List.set_append_right _ _ (by simp; omega)]
      have e0 : off + j - min (off + j) c.size = 0 := by omega
      simp [e0]
    have e2 : (c.toList.set (off + j) v).drop (off + j + 1 + vs.length) = c.toList.drop (off + j + (vs.length + 1)) := by
      rw [List.drop_set, if_pos (by omega)]
      congr 1; omega
    rw [e1, e2]
    simp

theorem fill_rel {H : DHeap} (place : Nat → Option (Nat × Nat)) : ∀ (parts : List (Nat × DVal)) (vs : List (Nat × Value)) (cs : List DVal) (c : Array Value) (out : List DVal),
    RelL w H cs c.toList → parts.length = vs.length → (∀ (j : Nat) (i : Nat) (d : DVal), parts[j]? = some (i, d) → ∃ v, vs[j]? = some (i, v) ∧ RelL w H d.cells v.cells.toList) →
    dfill place cs parts = some out → ∃ c', Instr.fill place c vs = some c' ∧ RelL w H out c'.toList
  | [], [], cs, c, out, hc, _, _, h => by
    simp only [dfill] at h; cases h
    exact ⟨c, rfl, hc⟩
  | [], _ :: _, _, _, _, _, hl, _, _ => by simp at hl
  | _ :: _, [], _, _, _, _, hl, _, _ => by simp at hl
  | (i, d) :: parts, (i', v) :: vs, cs, c, out, hc, hl, hp, h => by
    obtain ⟨v', hv', hr⟩ := hp 0 i d rfl
    simp at hv'
    obtain ⟨rfl, rfl⟩ := hv'
    simp only [dfill] at h
    cases hpl : place i' with
    | none => rw [hpl] at h; cases h
    | some os =>
      obtain ⟨off, size⟩ := os
      rw [hpl] at h
      simp only at h
      split at h
      · rename_i hle
        obtain ⟨hsz, hle⟩ := hle
        have hlr := hr.length
        have hlc := hc.length
        have hvs : v.cells.size = d.cells.length := by rw [hlr]; simp
        have hcs : cs.length = c.size := by rw [hlc]; simp
        have hf : (v.cells.zipIdx.foldl (fun cs (p : Value × Nat) => cs.setIfInBounds (off + p.2) p.1) c).toList = c.toList.take off ++ v.cells.toList ++ c.toList.drop (off + v.cells.toList.length) := by
          have := foldl_set v.cells.toList 0 off c (by simp; omega)
          rw [← Array.foldl_toList, Array.toList_zipIdx]
          simpa using this
        obtain ⟨c', h1, h2⟩ := fill_rel place parts vs (cs.take off ++ d.cells ++ cs.drop (off + d.cells.length)) (v.cells.zipIdx.foldl (fun cs (p : Value × Nat) => cs.setIfInBounds (off + p.2) p.1) c) out
          (by rw [hf, ← hlr]; exact ((hc.take off).append hr).append (hc.drop _)) (by simpa using hl) (fun j i d hj => hp (j + 1) i d (by simpa using hj)) h
        refine ⟨c', ?_, h2⟩
        simp only [Instr.fill, hpl]
        rw [if_neg (by simp only [Bool.or_eq_true, decide_eq_true_eq, not_or]; omega)]
        exact h1
      · cases h

theorem dfill_length {place : Nat → Option (Nat × Nat)} : ∀ {parts : List (Nat × DVal)} {cs out : List DVal}, dfill place cs parts = some out → out.length = cs.length
  | [], cs, out, h => by simp only [dfill] at h; cases h; rfl
  | (i, d) :: parts, cs, out, h => by
    simp only [dfill] at h
    cases hpl : place i with
    | none => rw [hpl] at h; cases h
    | some os =>
      rw [hpl] at h
      simp only at h
      split at h
      · rename_i hle
        rw [dfill_length h]
        simp; omega
      · cases h

theorem parts_rel {s : DS} (hS : Sim G N s a w) : ∀ (ps : List (Nat × Operand)), (ps.all fun p => opdOk N p.2) = true →
    (dparts G s.env ps).length = (ps.map fun p => (p.1, a.eval p.2)).length ∧
    ∀ (j i : Nat) (d : DVal), (dparts G s.env ps)[j]? = some (i, d) → ∃ v, (ps.map fun p => (p.1, a.eval p.2))[j]? = some (i, v) ∧ RelL w s.heap d.cells v.cells.toList
  | [], _ => ⟨rfl, by simp [dparts]⟩
  | (i, x) :: ps, h => by
    simp only [List.all_cons, Bool.and_eq_true] at h
    obtain ⟨h1, h2⟩ := parts_rel hS ps h.2
    refine ⟨by simpa [dparts] using h1, fun j i' d hj => ?_⟩
    cases j with
    | zero =>
      simp [dparts] at hj
      obtain ⟨rfl, rfl⟩ := hj
      exact ⟨_, rfl, cells_rel (rel_dev hS h.1)⟩
    | succ j => simpa using h2 j i' d (by simpa [dparts] using hj)

theorem zero_rel {t : TypeId} {z : DVal} (h : zeroOf P t = some z) : ∃ v, (∀ w, (zeroValue t).run P w = .ok v w) ∧ (∀ (w : World) (H : DHeap), RelL w H z.cells v.cells.toList) := by
  unfold zeroOf at h
  cases hi : P.info? t with
  | none => simp [hi] at h
  | some i =>
    cases hz : i.zero with
    | none => simp [hi, hz] at h
    | some v =>
      simp [hi, hz] at h
      subst h
      exact ⟨v, fun w => by simp [zeroValue, run_typeInfo hi, hz], fun w H => cells_rel (rel_ofVal w H v)⟩

theorem run_mapM_fields {fs : List Field} (h : fs.all (fun f => (P.info? f.type).isSome) = true) :
    (fs.mapM (fun f => (do pure (f.offset, ← sizeOf f.type) : Sem (Nat × Nat)))).run P w = .ok (fs.map fun f => (f.offset, P.cellsOf f.type)) w := by
  induction fs with
  | nil => simp
  | cons f fs ih =>
    simp only [List.all_cons, Bool.and_eq_true] at h
    simp only [List.mapM_cons, Sem.run_bind, run_sizeOf h.1, Result.andThen_ok, Sem.run_pure, ih h.2, List.map_cons]

theorem s_build (hS : Sim G N s a w) (hd : dstOk N o.dst = true) {t : TypeId} {ps : Array (Nat × Operand)} (hp : (ps.toList.all fun p => opdOk N p.2) = true) (he : o.op = .build t ps)
    (h : dBuild P o.dst (buildOk P t) (P.underlying t) (zeroOf P t) (dparts G s.env ps.toList) K s) : o.wp P a w (NextS G N K s w) Qx := by
  obtain ⟨hl, hpr⟩ := parts_rel hS ps.toList hp
  cases hb : buildOk P t with
  | false => rw [hb] at h; exact h.elim
  | true =>
    rw [hb] at h
    cases hz : zeroOf P t with
    | none => rw [hz] at h; cases hu : P.underlying t with
      | none => rw [hu] at h; exact h.elim
      | some td => rw [hu] at h; cases td <;> exact h.elim
    | some z =>
      obtain ⟨v, hv, hvr⟩ := zero_rel hz
      rw [hz] at h
      have hmap : (ps.map fun p => (p.1, a.eval p.2)).toList = ps.toList.map fun p => (p.1, a.eval p.2) := by simp
      cases hu : P.underlying t with
      | none => rw [hu] at h; exact h.elim
      | some td =>
        rw [hu] at h
        unfold buildOk at hb
        rw [hu] at hb
        cases td <;> try exact h.elim
        case struct fs =>
          obtain ⟨d, hd', hK⟩ := dputO_some h
          simp only [Option.map_eq_some_iff] at hd'
          obtain ⟨out, hout, rfl⟩ := hd'
          obtain ⟨c', h1, h2⟩ := fill_rel _ _ _ _ _ _ (hvr w s.heap) hl hpr hout
          refine op_value hS hd (x := .agg c') ?_ (by simp only [Rel]; exact ⟨c', rfl, h2⟩) hK
          have hm : (fs.mapM (fun f => (do pure (f.offset, ← sizeOf f.type) : Sem (Nat × Nat)))).run P w = .ok (fs.map fun f => (f.offset, P.cellsOf f.type)) w := by
            rw [Array.mapM_eq_mapM_toList]
            simp only [Sem.run_map, run_mapM_fields (w := w) hb, Result.andThen_ok]
            congr 1
            apply Array.ext'
            simp
          have hplace : (fun i => (fs.map fun f => (f.offset, P.cellsOf f.type))[i]?) = placeS P fs := by
            funext i; simp [placeS]
          simp only [execOp, he, Instr.build, Sem.run_bind, hv, run_underlying hu, Result.andThen_ok, hm, hplace, hmap, h1]
          simp
        case array n e =>
          obtain ⟨d, hd', hK⟩ := dputO_some h
          simp only [Option.map_eq_some_iff] at hd'
          obtain ⟨out, hout, rfl⟩ := hd'
          obtain ⟨c', h1, h2⟩ := fill_rel _ _ _ _ _ _ (hvr w s.heap) hl hpr hout
          refine op_value hS hd (x := .agg c') ?_ (by simp only [Rel]; exact ⟨c', rfl, h2⟩) hK
          have hplace : (fun i => some (i * P.cellsOf e, P.cellsOf e)) = placeA (P.cellsOf e) := rfl
          simp only [execOp, he, Instr.build, Sem.run_bind, hv, run_underlying hu, Result.andThen_ok, run_sizeOf hb, hplace, hmap, h1]
          simp

theorem s_buildSlice (hS : Sim G N s a w) (hd : dstOk N o.dst = true) {t : TypeId} {n : Nat} {ps : Array (Nat × Operand)} (hp : (ps.toList.all fun p => opdOk N p.2) = true) (he : o.op = .buildSlice t n ps)
    (h : dBuildSlice P n o.dst (P.underlying t) (dparts G s.env ps.toList) K s) : o.wp P a w (NextS G N K s w) Qx := by
  obtain ⟨hl, hpr⟩ := parts_rel hS ps.toList hp
  have hmap : (ps.map fun p => (p.1, a.eval p.2)).toList = ps.toList.map fun p => (p.1, a.eval p.2) := by simp
  cases hu : P.underlying t with
  | none => rw [hu] at h; exact h.elim
  | some td =>
    rw [hu] at h
    cases td <;> try exact h.elim
    rename_i e
    simp only [dBuildSlice] at h
    cases hz : zeroOf P e with
    | none => rw [hz] at h; exact h.elim
    | some z =>
      obtain ⟨v, hv, hvr⟩ := zero_rel hz
      rw [hz] at h
      obtain ⟨hle, hzl, h⟩ := h
      cases hf : dfill (placeA (P.cellsOf e)) (repl n z.cells) (dparts G s.env ps.toList) with
      | none => rw [hf] at h; exact h.elim
      | some out =>
        rw [hf] at h
        have hie : (P.info? e).isSome = true := by
          unfold zeroOf at hz
          cases hi : P.info? e with
          | none => simp [hi] at hz
          | some i => rfl
        have hb := relL_repl (hvr w s.heap) n (n * P.cellsOf e) (by rw [hzl])
        have hvs : v.cells.size = P.cellsOf e := by rw [← hzl, (hvr w s.heap).length]; simp
        have hplace : (fun i => some (i * P.cellsOf e, P.cellsOf e)) = placeA (P.cellsOf e) := rfl
        by_cases h0 : n * P.cellsOf e = 0
        · have hb0 : RelL w s.heap (repl n z.cells) ((Array.range (n * P.cellsOf e)).map ((#[] : Array Value)[· % (#[] : Array Value).size]!)).toList := by
            rw [h0] at hb ⊢; simpa using hb
          obtain ⟨c', h1, h2⟩ := fill_rel _ _ _ _ _ _ hb0 hl hpr hf
          refine op_newS hS hd (c := c') (n := w.drawn) (Nat.le_refl n) (Nat.le_refl n) (by rw [← Array.length_toList, ← h2.length, dfill_length hf, repl_length, hzl]; omega) ?_ h2 (List.prefix_refl _) h
          simp only [execOp, he, Instr.buildSlice, Sem.run_bind, run_underlying hu, Result.andThen_ok, run_sizeOf hie]
          rw [if_neg (by simp; omega)]
          simp only [h0] at h1
          simp only [hplace, hmap, h0, if_true, Sem.run_bind, Sem.run_pure, Result.andThen_ok, h1]
          simp [newRow]
          rfl
        · obtain ⟨c', h1, h2⟩ := fill_rel _ _ _ _ _ _ hb hl hpr hf
          refine op_newS hS hd (c := c') (n := w.drawn) (Nat.le_refl n) (Nat.le_refl n) (by rw [← Array.length_toList, ← h2.length, dfill_length hf, repl_length, hzl]; omega) ?_ h2 (List.prefix_refl _) h
          simp only [execOp, he, Instr.buildSlice, Sem.run_bind, run_underlying hu, Result.andThen_ok, run_sizeOf hie]
          rw [if_neg (by simp; omega)]
          simp only [hplace, hmap, h0, if_false]
          simp [hv, h1, newRow]
          rfl

end
end Go.Dl
