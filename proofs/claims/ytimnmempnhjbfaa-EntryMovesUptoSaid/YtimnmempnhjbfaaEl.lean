/- The law EntryMoves: what the call computes. -/
import Derived.Test.YtimnmempnhjbfaaEk
import Derived.Test.YtimnmempnhjbfaaEh
set_option linter.unusedSimpArgs false
set_option linter.unusedVariables false
namespace Go.Dl
open Go Go.Proofs
set_option maxRecDepth 10000

/-- v is a list of ints of the call's own (none of it in H): its block is in Hx. -/
def VOk (e : TypeId) (H Hx : DHeap) (v : DVal) : Prop := v = .nilSlice ∨ ∃ r off len lo cs, H r = none ∧ Hx r = some (.cells cs e) ∧ v = .oslice 1 r off len lo ∧ off + len ≤ cs.length ∧ len ≤ 1099511627776
def LOk (e e' : TypeId) (H Hx : DHeap) (u : DVal) : Prop := u = .nilSlice ∨ ∃ ro vs, u = .oslice 1 ro 0 vs.length vs.length ∧ Hx ro = some (.cells vs e') ∧ (∀ v ∈ vs, VOk e H Hx v ∧ v.one = true ∧ v.cells = [v]) ∧ vs.length ≤ 1099511627776
theorem VOk.up {e : TypeId} {H Hx Hy : DHeap} {v : DVal} (h : VOk e H Hx v) (hs : ∀ r o, Hx r = some o → Hy r = some o) : VOk e H Hy v := by
  rcases h with h | ⟨r, off, len, lo, cs, h1, h2, h3, h4⟩
  · exact .inl h
  · exact .inr ⟨r, off, len, lo, cs, h1, hs _ _ h2, h3, h4⟩
theorem VOk.down {e : TypeId} {H H0 Hx : DHeap} {v : DVal} (h : VOk e H Hx v) (hs : ∀ r o, H0 r = some o → H r = some o) : VOk e H0 Hx v := by
  rcases h with h | ⟨r, off, len, lo, cs, h1, h2, h3, h4⟩
  · exact .inl h
  · exact .inr ⟨r, off, len, lo, cs, sub_none hs h1, h2, h3, h4⟩
theorem LOk.up {e e' : TypeId} {H Hx Hy : DHeap} {v : DVal} (h : LOk e e' H Hx v) (hs : ∀ r o, Hx r = some o → Hy r = some o) : LOk e e' H Hy v := by
  rcases h with h | ⟨r, vs, h1, h2, h3, h4⟩
  · exact .inl h
  · exact .inr ⟨r, vs, h1, hs _ _ h2, fun v hv => ⟨(h3 v hv).1.up hs, (h3 v hv).2⟩, h4⟩
theorem LOk.down {e e' : TypeId} {H H0 Hx : DHeap} {v : DVal} (h : LOk e e' H Hx v) (hs : ∀ r o, H0 r = some o → H r = some o) : LOk e e' H0 Hx v := by
  rcases h with h | ⟨r, vs, h1, h2, h3, h4⟩
  · exact .inl h
  · exact .inr ⟨r, vs, h1, h2, fun v hv => ⟨(h3 v hv).1.down hs, (h3 v hv).2⟩, h4⟩
theorem OwnRows.vok {e : TypeId} {H : DHeap} : ∀ {q : List (List Int)} {vs : List DVal} {H1 : DHeap}, OwnRows e H q vs H1 → (∀ l ∈ q, l.length ≤ 1099511627776) → ∀ v ∈ vs, VOk e H H1 v ∧ v.one = true ∧ v.cells = [v]
  | [], _, _, h, _, v, hv => by rw [h.1] at hv; cases hv
  | l :: q, vs, H1, h, hb, v, hv => by
    obtain ⟨u, vs', H2, rfl, h1, h2⟩ := h
    rcases List.mem_cons.1 hv with rfl | hv
    · rcases h2 with ⟨_, rfl, _⟩ | ⟨r, pre, lo, rest, hr, rfl, hlo, rfl⟩
      · exact ⟨.inl rfl, rfl, rfl⟩
      · exact ⟨.inr ⟨r, _, _, _, _, sub_none h1.sub hr, upd_same _ _ _, rfl, by simp, hb _ (by simp)⟩, rfl, rfl⟩
    · have := h1.vok (fun l hl => hb l (by simp [hl])) v hv
      exact ⟨this.1.up h2.sub, this.2⟩
theorem OwnLL.lok {e e' : TypeId} {H H1 : DHeap} {q : List (List Int)} {v : DVal} (h : OwnLL e e' H q v H1) (hq : q.length ≤ 1099511627776) (hb : ∀ l ∈ q, l.length ≤ 1099511627776) : LOk e e' H H1 v := by
  rcases h with ⟨rfl, rfl, rfl⟩ | ⟨ro, vs, H2, h1, h2, rfl, rfl⟩
  · exact .inl rfl
  · refine .inr ⟨ro, vs, by rw [h1.len], upd_same _ _ _, fun v hv => ⟨(h1.vok hb v hv).1.up fun r o hr => ?_, (h1.vok hb v hv).2⟩, by rw [h1.len]; exact hq⟩
    have hne : r ≠ ro := none_ne h2 hr
    simp [upd, hne, hr]
theorem OwnLL.cell1 {e e' : TypeId} {H H1 : DHeap} {q : List (List Int)} {v : DVal} (h : OwnLL e e' H q v H1) : v.cells = [v] ∧ v.one = true := by
  rcases h with ⟨rfl, rfl, rfl⟩ | ⟨ro, vs, H2, h1, h2, rfl, rfl⟩ <;> exact ⟨rfl, rfl⟩

/-- heap is Hx, but for the cells of some int blocks that are not in H. -/
def Scr (e : TypeId) (H Hx heap : DHeap) : Prop := ∀ r, heap r = Hx r ∨ (H r = none ∧ ∃ cs cs', Hx r = some (.cells cs e) ∧ heap r = some (.cells cs' e) ∧ cs'.length = cs.length)
theorem Scr.refl (e : TypeId) (H Hx : DHeap) : Scr e H Hx Hx := fun _ => .inl rfl
theorem Scr.other {e e' : TypeId} {H Hx heap : DHeap} (h : Scr e H Hx heap) (hne : e' ≠ e) {r : Nat} {vs : List DVal} (hr : Hx r = some (.cells vs e')) : heap r = some (.cells vs e') := by
  rcases h r with h | ⟨_, cs, cs', h1, _⟩
  · rw [h, hr]
  · rw [hr] at h1; cases h1; exact absurd rfl hne
theorem Scr.row {e : TypeId} {H Hx heap : DHeap} (h : Scr e H Hx heap) {r : Nat} {cs : List DVal} (hr : Hx r = some (.cells cs e)) : ∃ cs', heap r = some (.cells cs' e) ∧ cs'.length = cs.length := by
  rcases h r with h | ⟨_, cs1, cs', h1, h2, h3⟩
  · exact ⟨cs, by rw [h, hr], rfl⟩
  · rw [hr] at h1; cases h1; exact ⟨cs', h2, h3⟩
theorem Scr.set {e : TypeId} {H Hx heap : DHeap} (h : Scr e H Hx heap) {r : Nat} {cs cs' : List DVal} (hn : H r = none) (hr : Hx r = some (.cells cs e)) (hl : cs'.length = cs.length) : Scr e H Hx (upd heap r (some (.cells cs' e))) := fun b => by
  by_cases eb : b = r
  · subst eb; exact .inr ⟨hn, cs, cs', hr, by simp [upd], hl⟩
  · simp only [upd, if_neg eb]; exact h b
theorem Scr.sub {e : TypeId} {H Hx heap : DHeap} (h : Scr e H Hx heap) (hs : ∀ r o, H r = some o → Hx r = some o) : ∀ r o, H r = some o → heap r = some o := fun r o hr => by
  rcases h r with h | ⟨hn, _⟩
  · rw [h]; exact hs r o hr
  · rw [hn] at hr; cases hr

theorem getD_len {q : List (List Int)} {n B : Nat} (hl : ∀ l ∈ q, l.length ≤ B) : (q.getD n []).length ≤ B := by
  by_cases h : n < q.length
  · rw [List.getD_eq_getElem?_getD, List.getElem?_eq_getElem h]
    exact hl _ (List.getElem_mem h)
  · rw [List.getD_eq_getElem?_getD, List.getElem?_eq_none (by omega)]
    simp
theorem set_bound {q : List (List Int)} {n B : Nat} {m : List Int} (hl : ∀ l ∈ q, l.length ≤ B) (hm : m.length ≤ B) : ∀ l ∈ q.set n m, l.length ≤ B := fun l h => by
  rcases List.mem_or_eq_of_mem_set h with h | rfl
  · exact hl l h
  · exact hm
theorem putL_bound {q : List (List Int)} {e t : Int} {B : Nat} (hl : ∀ l ∈ q, l.length ≤ B) : (∀ l ∈ (putL q e t).1, l.length ≤ B + 1) ∧ (putL q e t).1.length ≤ q.length := by
  unfold putL
  have := getD_len (n := e.toNat) hl
  split
  · simp
  · split
    · simp
    · exact ⟨set_bound (fun l h => Nat.le_succ_of_le (hl l h)) (by simpa using this), by simp⟩
theorem takeL_bound {q : List (List Int)} {e : Int} {B : Nat} (hl : ∀ l ∈ q, l.length ≤ B) : (∀ l ∈ (takeL q e).1, l.length ≤ B) ∧ (takeL q e).1.length ≤ q.length := by
  unfold takeL
  have := getD_len (n := e.toNat) hl
  split
  · simp
  · split
    · simp
    · rename_i u l hg
      rw [hg] at this
      exact ⟨set_bound hl (by simp at this; omega), by simp⟩
theorem removeL_bound {q : List (List Int)} {t : Int} {B : Nat} (hl : ∀ l ∈ q, l.length ≤ B) : (∀ l ∈ (removeL q t).1, l.length ≤ B) ∧ (removeL q t).1.length ≤ q.length := by
  unfold removeL
  split
  · simp
  · split
    · simp
    · split
      · simp
      · rename_i p hp
        refine ⟨set_bound hl ?_, by simp⟩
        exact Nat.le_trans (List.length_eraseIdx_le _ _) (getD_len hl)

theorem setI_neg (q : List (List Int)) (l : List Int) : setI q (-1) l = q := by
  simp [setI]

theorem copied_spec (G : Nat → DVal) (q : List (List Int)) (H : DHeap) (hq : q.length ≤ 1099511627776) (hl : ∀ l ∈ q, l.length ≤ 1099511627776) : DCalls Try.prog G 10 [dIss q] H (DRet (dIss q) H) := by
  refine dcalls_intro Try.func10 Try.call10 rfl (by kernel_rfl) ?_
  simp (disch := omega) only [go_sem, Nat.reduceEqDiff, Nat.reduceAdd, Nat.reduceMul, Nat.reduceSub, Nat.reduceLeDiff, ↓reduceIte, reduceCtorEq, Int.toNat_natCast, Int.sub_zero, Int.zero_add, Int.add_zero, Int.reduceAdd, Int.reduceSub, Int.reduceMul, Int.reduceNeg, Int.reduceToNat, Nat.add_sub_cancel, List.reduceReplicate, wrap64_id, List.length_cons, List.length_nil, List.all_cons, List.all_nil, Bool.and_true, Bool.true_and, Bool.or_false, Bool.false_or, List.take_succ_cons, List.take_zero, List.drop_succ_cons, List.drop_zero, decide_true, decide_false, Nat.mul_one, Nat.one_mul, Nat.zero_add, Nat.add_zero, Nat.mul_zero, Nat.zero_mul, Bool.not_true, Bool.not_false, Option.map_some, Option.map_none, Nat.le_refl, Nat.zero_lt_succ, ne_eq, not_true_eq_false, not_false_eq_true, Option.isSome_some, and_of, dec_true, dec_false, true_imp_iff, false_imp_iff, beq_self_eq_true, forall_const, getElem_map, List.length_map, dIs, dIss]
  have h := (copy_spec G q (-1) [] H hq hl).leArgs (.cons (.refl _) (.cons (.refl _) (.cons .nil .nil)) : DLes [dIss q, dI (-1), .nilSlice] [dIss q, dI (-1), dIs []])
  rw [setI_neg] at h
  refine h.mono ?_
  rintro _ H ⟨rfl, rfl⟩
  simp (disch := omega) only [go_sem, Nat.reduceEqDiff, Nat.reduceAdd, Nat.reduceMul, Nat.reduceSub, Nat.reduceLeDiff, ↓reduceIte, reduceCtorEq, Int.toNat_natCast, Int.sub_zero, Int.zero_add, Int.add_zero, Int.reduceAdd, Int.reduceSub, Int.reduceMul, Int.reduceNeg, Int.reduceToNat, Nat.add_sub_cancel, List.reduceReplicate, wrap64_id, List.length_cons, List.length_nil, List.all_cons, List.all_nil, Bool.and_true, Bool.true_and, Bool.or_false, Bool.false_or, List.take_succ_cons, List.take_zero, List.drop_succ_cons, List.drop_zero, decide_true, decide_false, Nat.mul_one, Nat.one_mul, Nat.zero_add, Nat.add_zero, Nat.mul_zero, Nat.zero_mul, Bool.not_true, Bool.not_false, Option.map_some, Option.map_none, Nat.le_refl, Nat.zero_lt_succ, ne_eq, not_true_eq_false, not_false_eq_true, Option.isSome_some, and_of, dec_true, dec_false, true_imp_iff, false_imp_iff, beq_self_eq_true, forall_const, getElem_map, List.length_map, dIs, dIss]
  exact DFin.refl ⟨rfl, rfl⟩

theorem entryMoves_spec (G : Nat → DVal) (hG : ∀ g, ∃ r o, G g = .optr r o) (q : List (List Int)) (e t : Int) (H : DHeap) (hq : q.length ≤ 1099511627776) (hb : q.flatten.length ≤ 1099511627776) (hl : ∀ l ∈ q, l.length ≤ 100000000) :
    DCalls Try.prog G 3 [dIss q, dI e, dI t] H (DRet (.bool true) H) := by
  have hl9 : ∀ l ∈ q, l.length ≤ 1000000000 := fun l h => Nat.le_trans (hl l h) (by omega)
  have hl' : ∀ l ∈ q, l.length ≤ 1099511627776 := fun l h => Nat.le_trans (hl l h) (by omega)
  refine dcalls_intro Try.func3 Try.call3 rfl (by kernel_rfl) ?_
  simp (disch := omega) only [go_sem, Nat.reduceEqDiff, Nat.reduceAdd, Nat.reduceMul, Nat.reduceSub, Nat.reduceLeDiff, ↓reduceIte, reduceCtorEq, Int.toNat_natCast, Int.sub_zero, Int.zero_add, Int.add_zero, Int.reduceAdd, Int.reduceSub, Int.reduceMul, Int.reduceNeg, Int.reduceToNat, Nat.add_sub_cancel, List.reduceReplicate, wrap64_id, List.length_cons, List.length_nil, List.all_cons, List.all_nil, Bool.and_true, Bool.true_and, Bool.or_false, Bool.false_or, List.take_succ_cons, List.take_zero, List.drop_succ_cons, List.drop_zero, decide_true, decide_false, Nat.mul_one, Nat.one_mul, Nat.zero_add, Nat.add_zero, Nat.mul_zero, Nat.zero_mul, Bool.not_true, Bool.not_false, Option.map_some, Option.map_none, Nat.le_refl, Nat.zero_lt_succ, ne_eq, not_true_eq_false, not_false_eq_true, Option.isSome_some, and_of, dec_true, dec_false, true_imp_iff, false_imp_iff, beq_self_eq_true, forall_const, getElem_map, List.length_map, dIs, dIss]
  refine (copied_spec G q _ hq hl').mono ?_
  rintro _ H ⟨rfl, rfl⟩
  simp (disch := omega) only [go_sem, Nat.reduceEqDiff, Nat.reduceAdd, Nat.reduceMul, Nat.reduceSub, Nat.reduceLeDiff, ↓reduceIte, reduceCtorEq, Int.toNat_natCast, Int.sub_zero, Int.zero_add, Int.add_zero, Int.reduceAdd, Int.reduceSub, Int.reduceMul, Int.reduceNeg, Int.reduceToNat, Nat.add_sub_cancel, List.reduceReplicate, wrap64_id, List.length_cons, List.length_nil, List.all_cons, List.all_nil, Bool.and_true, Bool.true_and, Bool.or_false, Bool.false_or, List.take_succ_cons, List.take_zero, List.drop_succ_cons, List.drop_zero, decide_true, decide_false, Nat.mul_one, Nat.one_mul, Nat.zero_add, Nat.add_zero, Nat.mul_zero, Nat.zero_mul, Bool.not_true, Bool.not_false, Option.map_some, Option.map_none, Nat.le_refl, Nat.zero_lt_succ, ne_eq, not_true_eq_false, not_false_eq_true, Option.isSome_some, and_of, dec_true, dec_false, true_imp_iff, false_imp_iff, beq_self_eq_true, forall_const, getElem_map, List.length_map, dIs, dIss]
  refine (put_own G q e t H hq hl9).mono ?_
  rintro _ H1 ⟨u1, rfl, hu1⟩
  simp (disch := omega) only [go_sem, Nat.reduceEqDiff, Nat.reduceAdd, Nat.reduceMul, Nat.reduceSub, Nat.reduceLeDiff, ↓reduceIte, reduceCtorEq, Int.toNat_natCast, Int.sub_zero, Int.zero_add, Int.add_zero, Int.reduceAdd, Int.reduceSub, Int.reduceMul, Int.reduceNeg, Int.reduceToNat, Nat.add_sub_cancel, List.reduceReplicate, wrap64_id, List.length_cons, List.length_nil, List.all_cons, List.all_nil, Bool.and_true, Bool.true_and, Bool.or_false, Bool.false_or, List.take_succ_cons, List.take_zero, List.drop_succ_cons, List.drop_zero, decide_true, decide_false, Nat.mul_one, Nat.one_mul, Nat.zero_add, Nat.add_zero, Nat.mul_zero, Nat.zero_mul, Bool.not_true, Bool.not_false, Option.map_some, Option.map_none, Nat.le_refl, Nat.zero_lt_succ, ne_eq, not_true_eq_false, not_false_eq_true, Option.isSome_some, and_of, dec_true, dec_false, true_imp_iff, false_imp_iff, beq_self_eq_true, forall_const, getElem_map, List.length_map, dIs, dIss]
  refine (rput_spec G q e t _ hq hb hl9).mono ?_
  rintro _ H1 ⟨rfl, rfl⟩
  simp (disch := omega) only [go_sem, Nat.reduceEqDiff, Nat.reduceAdd, Nat.reduceMul, Nat.reduceSub, Nat.reduceLeDiff, ↓reduceIte, reduceCtorEq, Int.toNat_natCast, Int.sub_zero, Int.zero_add, Int.add_zero, Int.reduceAdd, Int.reduceSub, Int.reduceMul, Int.reduceNeg, Int.reduceToNat, Nat.add_sub_cancel, List.reduceReplicate, wrap64_id, List.length_cons, List.length_nil, List.all_cons, List.all_nil, Bool.and_true, Bool.true_and, Bool.or_false, Bool.false_or, List.take_succ_cons, List.take_zero, List.drop_succ_cons, List.drop_zero, decide_true, decide_false, Nat.mul_one, Nat.one_mul, Nat.zero_add, Nat.add_zero, Nat.mul_zero, Nat.zero_mul, Bool.not_true, Bool.not_false, Option.map_some, Option.map_none, Nat.le_refl, Nat.zero_lt_succ, ne_eq, not_true_eq_false, not_false_eq_true, Option.isSome_some, and_of, dec_true, dec_false, true_imp_iff, false_imp_iff, beq_self_eq_true, forall_const, getElem_map, List.length_map, dIs, dIss]
  refine (take_own G q e H1 hq hl9).mono ?_
  rintro _ H2 ⟨u2, rfl, hu2⟩
  simp (disch := omega) only [go_sem, Nat.reduceEqDiff, Nat.reduceAdd, Nat.reduceMul, Nat.reduceSub, Nat.reduceLeDiff, ↓reduceIte, reduceCtorEq, Int.toNat_natCast, Int.sub_zero, Int.zero_add, Int.add_zero, Int.reduceAdd, Int.reduceSub, Int.reduceMul, Int.reduceNeg, Int.reduceToNat, Nat.add_sub_cancel, List.reduceReplicate, wrap64_id, List.length_cons, List.length_nil, List.all_cons, List.all_nil, Bool.and_true, Bool.true_and, Bool.or_false, Bool.false_or, List.take_succ_cons, List.take_zero, List.drop_succ_cons, List.drop_zero, decide_true, decide_false, Nat.mul_one, Nat.one_mul, Nat.zero_add, Nat.add_zero, Nat.mul_zero, Nat.zero_mul, Bool.not_true, Bool.not_false, Option.map_some, Option.map_none, Nat.le_refl, Nat.zero_lt_succ, ne_eq, not_true_eq_false, not_false_eq_true, Option.isSome_some, and_of, dec_true, dec_false, true_imp_iff, false_imp_iff, beq_self_eq_true, forall_const, getElem_map, List.length_map, dIs, dIss]
  refine (rtake_spec G q e _ hq hb hl9).mono ?_
  rintro _ H2 ⟨rfl, rfl⟩
  simp (disch := omega) only [go_sem, Nat.reduceEqDiff, Nat.reduceAdd, Nat.reduceMul, Nat.reduceSub, Nat.reduceLeDiff, ↓reduceIte, reduceCtorEq, Int.toNat_natCast, Int.sub_zero, Int.zero_add, Int.add_zero, Int.reduceAdd, Int.reduceSub, Int.reduceMul, Int.reduceNeg, Int.reduceToNat, Nat.add_sub_cancel, List.reduceReplicate, wrap64_id, List.length_cons, List.length_nil, List.all_cons, List.all_nil, Bool.and_true, Bool.true_and, Bool.or_false, Bool.false_or, List.take_succ_cons, List.take_zero, List.drop_succ_cons, List.drop_zero, decide_true, decide_false, Nat.mul_one, Nat.one_mul, Nat.zero_add, Nat.add_zero, Nat.mul_zero, Nat.zero_mul, Bool.not_true, Bool.not_false, Option.map_some, Option.map_none, Nat.le_refl, Nat.zero_lt_succ, ne_eq, not_true_eq_false, not_false_eq_true, Option.isSome_some, and_of, dec_true, dec_false, true_imp_iff, false_imp_iff, beq_self_eq_true, forall_const, getElem_map, List.length_map, dIs, dIss]
  refine (remove_own G q t H2 hq hl9).mono ?_
  rintro _ H3 ⟨u3, rfl, hu3⟩
  simp (disch := omega) only [go_sem, Nat.reduceEqDiff, Nat.reduceAdd, Nat.reduceMul, Nat.reduceSub, Nat.reduceLeDiff, ↓reduceIte, reduceCtorEq, Int.toNat_natCast, Int.sub_zero, Int.zero_add, Int.add_zero, Int.reduceAdd, Int.reduceSub, Int.reduceMul, Int.reduceNeg, Int.reduceToNat, Nat.add_sub_cancel, List.reduceReplicate, wrap64_id, List.length_cons, List.length_nil, List.all_cons, List.all_nil, Bool.and_true, Bool.true_and, Bool.or_false, Bool.false_or, List.take_succ_cons, List.take_zero, List.drop_succ_cons, List.drop_zero, decide_true, decide_false, Nat.mul_one, Nat.one_mul, Nat.zero_add, Nat.add_zero, Nat.mul_zero, Nat.zero_mul, Bool.not_true, Bool.not_false, Option.map_some, Option.map_none, Nat.le_refl, Nat.zero_lt_succ, ne_eq, not_true_eq_false, not_false_eq_true, Option.isSome_some, and_of, dec_true, dec_false, true_imp_iff, false_imp_iff, beq_self_eq_true, forall_const, getElem_map, List.length_map, dIs, dIss]
  refine (rremove_spec G q t _ hq hb hl9).mono ?_
  rintro _ H3 ⟨rfl, rfl⟩
  have p1 : ∀ l ∈ (putL q e t).1, l.length ≤ 1099511627776 := fun l h => Nat.le_trans ((putL_bound (e := e) (t := t) hl9).1 l h) (by omega)
  have p1n : (putL q e t).1.length ≤ 1099511627776 := Nat.le_trans (putL_bound (e := e) (t := t) hl9).2 hq
  have p2 : ∀ l ∈ (takeL q e).1, l.length ≤ 1099511627776 := fun l h => Nat.le_trans ((takeL_bound (e := e) hl').1 l h) (by omega)
  have p2n : (takeL q e).1.length ≤ 1099511627776 := Nat.le_trans (takeL_bound (e := e) hl').2 hq
  have p3 : ∀ l ∈ (removeL q t).1, l.length ≤ 1099511627776 := fun l h => Nat.le_trans ((removeL_bound (t := t) hl').1 l h) (by omega)
  have p3n : (removeL q t).1.length ≤ 1099511627776 := Nat.le_trans (removeL_bound (t := t) hl').2 hq
  simp (disch := omega) only [go_sem, Nat.reduceEqDiff, Nat.reduceAdd, Nat.reduceMul, Nat.reduceSub, Nat.reduceLeDiff, ↓reduceIte, reduceCtorEq, Int.toNat_natCast, Int.sub_zero, Int.zero_add, Int.add_zero, Int.reduceAdd, Int.reduceSub, Int.reduceMul, Int.reduceNeg, Int.reduceToNat, Nat.add_sub_cancel, List.reduceReplicate, wrap64_id, List.length_cons, List.length_nil, List.all_cons, List.all_nil, Bool.and_true, Bool.true_and, Bool.or_false, Bool.false_or, List.take_succ_cons, List.take_zero, List.drop_succ_cons, List.drop_zero, decide_true, decide_false, Nat.mul_one, Nat.one_mul, Nat.zero_add, Nat.add_zero, Nat.mul_zero, Nat.zero_mul, Bool.not_true, Bool.not_false, Option.map_some, Option.map_none, Nat.le_refl, Nat.zero_lt_succ, ne_eq, not_true_eq_false, not_false_eq_true, Option.isSome_some, and_of, dec_true, dec_false, true_imp_iff, false_imp_iff, beq_self_eq_true, forall_const, getElem_map, List.length_map, dIs, dIss]
  refine (same_own G hG u1 (dIss (putL q e t).1) _ _ H3 ((hu1.views.up hu2.sub).up hu3.sub) (.frozen _ _) p1n p1n p1 p1).mono ?_
  rintro _ H3 ⟨rfl, rfl⟩
  simp (disch := omega) only [go_sem, Nat.reduceEqDiff, Nat.reduceAdd, Nat.reduceMul, Nat.reduceSub, Nat.reduceLeDiff, ↓reduceIte, reduceCtorEq, Int.toNat_natCast, Int.sub_zero, Int.zero_add, Int.add_zero, Int.reduceAdd, Int.reduceSub, Int.reduceMul, Int.reduceNeg, Int.reduceToNat, Nat.add_sub_cancel, List.reduceReplicate, wrap64_id, List.length_cons, List.length_nil, List.all_cons, List.all_nil, Bool.and_true, Bool.true_and, Bool.or_false, Bool.false_or, List.take_succ_cons, List.take_zero, List.drop_succ_cons, List.drop_zero, decide_true, decide_false, Nat.mul_one, Nat.one_mul, Nat.zero_add, Nat.add_zero, Nat.mul_zero, Nat.zero_mul, Bool.not_true, Bool.not_false, Option.map_some, Option.map_none, Nat.le_refl, Nat.zero_lt_succ, ne_eq, not_true_eq_false, not_false_eq_true, Option.isSome_some, and_of, dec_true, dec_false, true_imp_iff, false_imp_iff, beq_self_eq_true, forall_const, getElem_map, List.length_map, dIs, dIss]
  refine (same_own G hG u2 (dIss (takeL q e).1) _ _ H3 (hu2.views.up hu3.sub) (.frozen _ _) p2n p2n p2 p2).mono ?_
  rintro _ H3 ⟨rfl, rfl⟩
  simp (disch := omega) only [go_sem, Nat.reduceEqDiff, Nat.reduceAdd, Nat.reduceMul, Nat.reduceSub, Nat.reduceLeDiff, ↓reduceIte, reduceCtorEq, Int.toNat_natCast, Int.sub_zero, Int.zero_add, Int.add_zero, Int.reduceAdd, Int.reduceSub, Int.reduceMul, Int.reduceNeg, Int.reduceToNat, Nat.add_sub_cancel, List.reduceReplicate, wrap64_id, List.length_cons, List.length_nil, List.all_cons, List.all_nil, Bool.and_true, Bool.true_and, Bool.or_false, Bool.false_or, List.take_succ_cons, List.take_zero, List.drop_succ_cons, List.drop_zero, decide_true, decide_false, Nat.mul_one, Nat.one_mul, Nat.zero_add, Nat.add_zero, Nat.mul_zero, Nat.zero_mul, Bool.not_true, Bool.not_false, Option.map_some, Option.map_none, Nat.le_refl, Nat.zero_lt_succ, ne_eq, not_true_eq_false, not_false_eq_true, Option.isSome_some, and_of, dec_true, dec_false, true_imp_iff, false_imp_iff, beq_self_eq_true, forall_const, getElem_map, List.length_map, dIs, dIss]
  refine (same_own G hG u3 (dIss (removeL q t).1) _ _ H3 hu3.views (.frozen _ _) p3n p3n p3 p3).mono ?_
  rintro _ H3 ⟨rfl, rfl⟩
  simp (disch := omega) only [go_sem, Nat.reduceEqDiff, Nat.reduceAdd, Nat.reduceMul, Nat.reduceSub, Nat.reduceLeDiff, ↓reduceIte, reduceCtorEq, Int.toNat_natCast, Int.sub_zero, Int.zero_add, Int.add_zero, Int.reduceAdd, Int.reduceSub, Int.reduceMul, Int.reduceNeg, Int.reduceToNat, Nat.add_sub_cancel, List.reduceReplicate, wrap64_id, List.length_cons, List.length_nil, List.all_cons, List.all_nil, Bool.and_true, Bool.true_and, Bool.or_false, Bool.false_or, List.take_succ_cons, List.take_zero, List.drop_succ_cons, List.drop_zero, decide_true, decide_false, Nat.mul_one, Nat.one_mul, Nat.zero_add, Nat.add_zero, Nat.mul_zero, Nat.zero_mul, Bool.not_true, Bool.not_false, Option.map_some, Option.map_none, Nat.le_refl, Nat.zero_lt_succ, ne_eq, not_true_eq_false, not_false_eq_true, Option.isSome_some, and_of, dec_true, dec_false, true_imp_iff, false_imp_iff, beq_self_eq_true, forall_const, getElem_map, List.length_map, dIs, dIss, hu1.cell1.1, hu1.cell1.2, hu2.cell1.1, hu2.cell1.2, hu3.cell1.1, hu3.cell1.2]
  intro rb hb; dsimp only at hb
  simp (disch := omega) only [go_sem, Nat.reduceEqDiff, Nat.reduceAdd, Nat.reduceMul, Nat.reduceSub, Nat.reduceLeDiff, ↓reduceIte, reduceCtorEq, Int.toNat_natCast, Int.sub_zero, Int.zero_add, Int.add_zero, Int.reduceAdd, Int.reduceSub, Int.reduceMul, Int.reduceNeg, Int.reduceToNat, Nat.add_sub_cancel, List.reduceReplicate, wrap64_id, List.length_cons, List.length_nil, List.all_cons, List.all_nil, Bool.and_true, Bool.true_and, Bool.or_false, Bool.false_or, List.take_succ_cons, List.take_zero, List.drop_succ_cons, List.drop_zero, decide_true, decide_false, Nat.mul_one, Nat.one_mul, Nat.zero_add, Nat.add_zero, Nat.mul_zero, Nat.zero_mul, Bool.not_true, Bool.not_false, Option.map_some, Option.map_none, Nat.le_refl, Nat.zero_lt_succ, ne_eq, not_true_eq_false, not_false_eq_true, Option.isSome_some, and_of, dec_true, dec_false, true_imp_iff, false_imp_iff, beq_self_eq_true, forall_const, getElem_map, List.length_map, dIs, dIss]
  generalize hHx : upd H3 rb (some (.cells [u1, u2, u3] 22)) = Hx
  have hup3 : ∀ r o, H3 r = some o → Hx r = some o := fun r o hr => by
    have hne : r ≠ rb := none_ne hb hr
    rw [← hHx]; simp [upd, hne, hr]
  have hsub : ∀ r o, H r = some o → Hx r = some o := fun r o hr => hup3 r o (hu3.sub r o (hu2.sub r o (hu1.sub r o hr)))
  have hxb : Hx rb = some (.cells [u1, u2, u3] 22) := by rw [← hHx]; simp [upd]
  have hok : ∀ k : Nat, k < 3 → ∃ v, ([u1, u2, u3] : List DVal)[k]? = some v ∧ LOk 3 37 H Hx v ∧ v.one = true ∧ v.cells = [v] := by
    intro k hk
    rcases (by omega : k = 0 ∨ k = 1 ∨ k = 2) with rfl | rfl | rfl
    · exact ⟨u1, rfl, (((hu1.lok p1n p1).up hu2.sub).up hu3.sub).up hup3, hu1.cell1.2, hu1.cell1.1⟩
    · exact ⟨u2, rfl, (((hu2.lok p2n p2).down hu1.sub).up hu3.sub).up hup3, hu2.cell1.2, hu2.cell1.1⟩
    · exact ⟨u3, rfl, (((hu3.lok p3n p3).down hu2.sub).down hu1.sub).up hup3, hu3.cell1.2, hu3.cell1.1⟩
  clear hu1 hu2 hu3 p1 p1n p2 p2n p3 p3n
  obtain ⟨I, hI⟩ : ∃ I : Nat → (Nat → DVal) → DHeap → Prop, ∀ k env heap, I k env heap ↔ (env 0 = dIss q ∧ env 7 = dIss q ∧ env 22 = .bool true ∧ env 106 = .oslice 1 rb 0 3 3 ∧ env 107 = dI 3 ∧ env 108 = dI k ∧ k ≤ 3 ∧ Scr 3 H Hx heap) := ⟨_, fun _ _ _ => Iff.rfl⟩
  refine DLoop.run I (fun k => 3 - k) 0 ((hI _ _ _).2 ?_) ?_
  · simp (disch := omega) only [go_sem, Nat.reduceEqDiff, Nat.reduceAdd, Nat.reduceMul, Nat.reduceSub, Nat.reduceLeDiff, ↓reduceIte, reduceCtorEq, Int.toNat_natCast, Int.sub_zero, Int.zero_add, Int.add_zero, Int.reduceAdd, Int.reduceSub, Int.reduceMul, Int.reduceNeg, Int.reduceToNat, Nat.add_sub_cancel, List.reduceReplicate, wrap64_id, List.length_cons, List.length_nil, List.all_cons, List.all_nil, Bool.and_true, Bool.true_and, Bool.or_false, Bool.false_or, List.take_succ_cons, List.take_zero, List.drop_succ_cons, List.drop_zero, decide_true, decide_false, Nat.mul_one, Nat.one_mul, Nat.zero_add, Nat.add_zero, Nat.mul_zero, Nat.zero_mul, Bool.not_true, Bool.not_false, Option.map_some, Option.map_none, Nat.le_refl, Nat.zero_lt_succ, ne_eq, not_true_eq_false, not_false_eq_true, Option.isSome_some, and_of, dec_true, dec_false, true_imp_iff, false_imp_iff, beq_self_eq_true, forall_const, getElem_map, List.length_map, dIs, dIss]
    (repeat' apply And.intro) <;> (try first | rfl | assumption | omega)
    exact Scr.refl _ _ _
  · intro k env heap hk
    obtain ⟨g0, g7, g22, g106, g107, g108, hk3, hscr⟩ := (hI _ _ _).1 hk
    by_cases hlt : k < 3
    · obtain ⟨v, hvk, hv, hv1, hvc⟩ := hok k hlt
      have hob := hscr.other (by decide) hxb
      rcases hv with rfl | ⟨ro, vs, rfl, hxo, hvs, hvl⟩
      · simp (disch := omega) only [go_sem, Nat.reduceEqDiff, Nat.reduceAdd, Nat.reduceMul, Nat.reduceSub, Nat.reduceLeDiff, ↓reduceIte, reduceCtorEq, Int.toNat_natCast, Int.sub_zero, Int.zero_add, Int.add_zero, Int.reduceAdd, Int.reduceSub, Int.reduceMul, Int.reduceNeg, Int.reduceToNat, Nat.add_sub_cancel, List.reduceReplicate, wrap64_id, List.length_cons, List.length_nil, List.all_cons, List.all_nil, Bool.and_true, Bool.true_and, Bool.or_false, Bool.false_or, List.take_succ_cons, List.take_zero, List.drop_succ_cons, List.drop_zero, decide_true, decide_false, Nat.mul_one, Nat.one_mul, Nat.zero_add, Nat.add_zero, Nat.mul_zero, Nat.zero_mul, Bool.not_true, Bool.not_false, Option.map_some, Option.map_none, Nat.le_refl, Nat.zero_lt_succ, ne_eq, not_true_eq_false, not_false_eq_true, Option.isSome_some, and_of, dec_true, dec_false, true_imp_iff, false_imp_iff, beq_self_eq_true, forall_const, getElem_map, List.length_map, dIs, dIss, g0, g7, g22, g106, g107, g108, hob, hvk]
        obtain ⟨J, hJ⟩ : ∃ J : Nat → (Nat → DVal) → DHeap → Prop, ∀ j env heap, J j env heap ↔ (env 0 = dIss q ∧ env 7 = dIss q ∧ env 22 = .bool true ∧ env 106 = .oslice 1 rb 0 3 3 ∧ env 107 = dI 3 ∧ env 108 = dI k ∧ env 112 = .nilSlice ∧ env 113 = dI 0 ∧ env 114 = dI 0 ∧ Scr 3 H Hx heap) := ⟨_, fun _ _ _ => Iff.rfl⟩
        refine DLoop.run J (fun _ => 0) 0 ((hJ _ _ _).2 ?_) ?_
        · simp (disch := omega) only [go_sem, Nat.reduceEqDiff, Nat.reduceAdd, Nat.reduceMul, Nat.reduceSub, Nat.reduceLeDiff, ↓reduceIte, reduceCtorEq, Int.toNat_natCast, Int.sub_zero, Int.zero_add, Int.add_zero, Int.reduceAdd, Int.reduceSub, Int.reduceMul, Int.reduceNeg, Int.reduceToNat, Nat.add_sub_cancel, List.reduceReplicate, wrap64_id, List.length_cons, List.length_nil, List.all_cons, List.all_nil, Bool.and_true, Bool.true_and, Bool.or_false, Bool.false_or, List.take_succ_cons, List.take_zero, List.drop_succ_cons, List.drop_zero, decide_true, decide_false, Nat.mul_one, Nat.one_mul, Nat.zero_add, Nat.add_zero, Nat.mul_zero, Nat.zero_mul, Bool.not_true, Bool.not_false, Option.map_some, Option.map_none, Nat.le_refl, Nat.zero_lt_succ, ne_eq, not_true_eq_false, not_false_eq_true, Option.isSome_some, and_of, dec_true, dec_false, true_imp_iff, false_imp_iff, beq_self_eq_true, forall_const, getElem_map, List.length_map, dIs, dIss, g0, g7, g22, g106, g107, g108]
          (repeat' apply And.intro) <;> (try first | rfl | assumption | omega)
        · intro j env heap hj
          obtain ⟨g0, g7, g22, g106, g107, g108, i112, i113, i114, hscr⟩ := (hJ _ _ _).1 hj
          simp (disch := omega) only [go_sem, Nat.reduceEqDiff, Nat.reduceAdd, Nat.reduceMul, Nat.reduceSub, Nat.reduceLeDiff, ↓reduceIte, reduceCtorEq, Int.toNat_natCast, Int.sub_zero, Int.zero_add, Int.add_zero, Int.reduceAdd, Int.reduceSub, Int.reduceMul, Int.reduceNeg, Int.reduceToNat, Nat.add_sub_cancel, List.reduceReplicate, wrap64_id, List.length_cons, List.length_nil, List.all_cons, List.all_nil, Bool.and_true, Bool.true_and, Bool.or_false, Bool.false_or, List.take_succ_cons, List.take_zero, List.drop_succ_cons, List.drop_zero, decide_true, decide_false, Nat.mul_one, Nat.one_mul, Nat.zero_add, Nat.add_zero, Nat.mul_zero, Nat.zero_mul, Bool.not_true, Bool.not_false, Option.map_some, Option.map_none, Nat.le_refl, Nat.zero_lt_succ, ne_eq, not_true_eq_false, not_false_eq_true, Option.isSome_some, and_of, dec_true, dec_false, true_imp_iff, false_imp_iff, beq_self_eq_true, forall_const, getElem_map, List.length_map, dIs, dIss, i112, i113, i114, g0, g7, g22, g106, g107, g108]
          refine ⟨k + 1, _, GhostS.refl _, (hI _ _ _).2 ?_, by omega⟩
          simp (disch := omega) only [go_sem, Nat.reduceEqDiff, Nat.reduceAdd, Nat.reduceMul, Nat.reduceSub, Nat.reduceLeDiff, ↓reduceIte, reduceCtorEq, Int.toNat_natCast, Int.sub_zero, Int.zero_add, Int.add_zero, Int.reduceAdd, Int.reduceSub, Int.reduceMul, Int.reduceNeg, Int.reduceToNat, Nat.add_sub_cancel, List.reduceReplicate, wrap64_id, List.length_cons, List.length_nil, List.all_cons, List.all_nil, Bool.and_true, Bool.true_and, Bool.or_false, Bool.false_or, List.take_succ_cons, List.take_zero, List.drop_succ_cons, List.drop_zero, decide_true, decide_false, Nat.mul_one, Nat.one_mul, Nat.zero_add, Nat.add_zero, Nat.mul_zero, Nat.zero_mul, Bool.not_true, Bool.not_false, Option.map_some, Option.map_none, Nat.le_refl, Nat.zero_lt_succ, ne_eq, not_true_eq_false, not_false_eq_true, Option.isSome_some, and_of, dec_true, dec_false, true_imp_iff, false_imp_iff, beq_self_eq_true, forall_const, getElem_map, List.length_map, dIs, dIss, i112, i113, i114, g0, g7, g22, g106, g107, g108]
          (repeat' apply And.intro) <;> (try first | rfl | assumption | omega)

      · simp (disch := omega) only [go_sem, Nat.reduceEqDiff, Nat.reduceAdd, Nat.reduceMul, Nat.reduceSub, Nat.reduceLeDiff, ↓reduceIte, reduceCtorEq, Int.toNat_natCast, Int.sub_zero, Int.zero_add, Int.add_zero, Int.reduceAdd, Int.reduceSub, Int.reduceMul, Int.reduceNeg, Int.reduceToNat, Nat.add_sub_cancel, List.reduceReplicate, wrap64_id, List.length_cons, List.length_nil, List.all_cons, List.all_nil, Bool.and_true, Bool.true_and, Bool.or_false, Bool.false_or, List.take_succ_cons, List.take_zero, List.drop_succ_cons, List.drop_zero, decide_true, decide_false, Nat.mul_one, Nat.one_mul, Nat.zero_add, Nat.add_zero, Nat.mul_zero, Nat.zero_mul, Bool.not_true, Bool.not_false, Option.map_some, Option.map_none, Nat.le_refl, Nat.zero_lt_succ, ne_eq, not_true_eq_false, not_false_eq_true, Option.isSome_some, and_of, dec_true, dec_false, true_imp_iff, false_imp_iff, beq_self_eq_true, forall_const, getElem_map, List.length_map, dIs, dIss, g0, g7, g22, g106, g107, g108, hob, hvk]
        obtain ⟨J, hJ⟩ : ∃ J : Nat → (Nat → DVal) → DHeap → Prop, ∀ j env heap, J j env heap ↔ (env 0 = dIss q ∧ env 7 = dIss q ∧ env 22 = .bool true ∧ env 106 = .oslice 1 rb 0 3 3 ∧ env 107 = dI 3 ∧ env 108 = dI k ∧ env 112 = .oslice 1 ro 0 vs.length vs.length ∧ env 113 = dI vs.length ∧ env 114 = dI j ∧ j ≤ vs.length ∧ Scr 3 H Hx heap) := ⟨_, fun _ _ _ => Iff.rfl⟩
        refine DLoop.run J (fun j => vs.length - j) 0 ((hJ _ _ _).2 ?_) ?_
        · simp (disch := omega) only [go_sem, Nat.reduceEqDiff, Nat.reduceAdd, Nat.reduceMul, Nat.reduceSub, Nat.reduceLeDiff, ↓reduceIte, reduceCtorEq, Int.toNat_natCast, Int.sub_zero, Int.zero_add, Int.add_zero, Int.reduceAdd, Int.reduceSub, Int.reduceMul, Int.reduceNeg, Int.reduceToNat, Nat.add_sub_cancel, List.reduceReplicate, wrap64_id, List.length_cons, List.length_nil, List.all_cons, List.all_nil, Bool.and_true, Bool.true_and, Bool.or_false, Bool.false_or, List.take_succ_cons, List.take_zero, List.drop_succ_cons, List.drop_zero, decide_true, decide_false, Nat.mul_one, Nat.one_mul, Nat.zero_add, Nat.add_zero, Nat.mul_zero, Nat.zero_mul, Bool.not_true, Bool.not_false, Option.map_some, Option.map_none, Nat.le_refl, Nat.zero_lt_succ, ne_eq, not_true_eq_false, not_false_eq_true, Option.isSome_some, and_of, dec_true, dec_false, true_imp_iff, false_imp_iff, beq_self_eq_true, forall_const, getElem_map, List.length_map, dIs, dIss, g0, g7, g22, g106, g107, g108]
          (repeat' apply And.intro) <;> (try first | rfl | assumption | omega)
        · intro j env heap hj
          obtain ⟨g0, g7, g22, g106, g107, g108, i112, i113, i114, hjl, hscr⟩ := (hJ _ _ _).1 hj
          by_cases hltj : j < vs.length
          · have hvj : vs[j]? = some vs[j] := List.getElem?_eq_getElem hltj
            have hoo := hscr.other (by decide) hxo
            obtain ⟨hvok, hone, hcell⟩ := hvs vs[j] (List.getElem_mem hltj)
            generalize vs[j] = v at hvj hvok hone hcell
            rcases hvok with rfl | ⟨r, off, len, lo, cs, hnr, hxr, rfl, hle, hll⟩
            · simp (disch := omega) only [go_sem, Nat.reduceEqDiff, Nat.reduceAdd, Nat.reduceMul, Nat.reduceSub, Nat.reduceLeDiff, ↓reduceIte, reduceCtorEq, Int.toNat_natCast, Int.sub_zero, Int.zero_add, Int.add_zero, Int.reduceAdd, Int.reduceSub, Int.reduceMul, Int.reduceNeg, Int.reduceToNat, Nat.add_sub_cancel, List.reduceReplicate, wrap64_id, List.length_cons, List.length_nil, List.all_cons, List.all_nil, Bool.and_true, Bool.true_and, Bool.or_false, Bool.false_or, List.take_succ_cons, List.take_zero, List.drop_succ_cons, List.drop_zero, decide_true, decide_false, Nat.mul_one, Nat.one_mul, Nat.zero_add, Nat.add_zero, Nat.mul_zero, Nat.zero_mul, Bool.not_true, Bool.not_false, Option.map_some, Option.map_none, Nat.le_refl, Nat.zero_lt_succ, ne_eq, not_true_eq_false, not_false_eq_true, Option.isSome_some, and_of, dec_true, dec_false, true_imp_iff, false_imp_iff, beq_self_eq_true, forall_const, getElem_map, List.length_map, dIs, dIss, i112, i113, i114, g0, g7, g22, g106, g107, g108, hoo, hvj]
              obtain ⟨K, hK⟩ : ∃ K : Nat → (Nat → DVal) → DHeap → Prop, ∀ m env heap, K m env heap ↔ (env 0 = dIss q ∧ env 7 = dIss q ∧ env 22 = .bool true ∧ env 106 = .oslice 1 rb 0 3 3 ∧ env 107 = dI 3 ∧ env 108 = dI k ∧ env 112 = .oslice 1 ro 0 vs.length vs.length ∧ env 113 = dI vs.length ∧ env 114 = dI j ∧ env 118 = .nilSlice ∧ env 119 = dI 0 ∧ env 120 = dI 0 ∧ Scr 3 H Hx heap) := ⟨_, fun _ _ _ => Iff.rfl⟩
              refine DLoop.run K (fun _ => 0) 0 ((hK _ _ _).2 ?_) ?_
              · simp (disch := omega) only [go_sem, Nat.reduceEqDiff, Nat.reduceAdd, Nat.reduceMul, Nat.reduceSub, Nat.reduceLeDiff, ↓reduceIte, reduceCtorEq, Int.toNat_natCast, Int.sub_zero, Int.zero_add, Int.add_zero, Int.reduceAdd, Int.reduceSub, Int.reduceMul, Int.reduceNeg, Int.reduceToNat, Nat.add_sub_cancel, List.reduceReplicate, wrap64_id, List.length_cons, List.length_nil, List.all_cons, List.all_nil, Bool.and_true, Bool.true_and, Bool.or_false, Bool.false_or, List.take_succ_cons, List.take_zero, List.drop_succ_cons, List.drop_zero, decide_true, decide_false, Nat.mul_one, Nat.one_mul, Nat.zero_add, Nat.add_zero, Nat.mul_zero, Nat.zero_mul, Bool.not_true, Bool.not_false, Option.map_some, Option.map_none, Nat.le_refl, Nat.zero_lt_succ, ne_eq, not_true_eq_false, not_false_eq_true, Option.isSome_some, and_of, dec_true, dec_false, true_imp_iff, false_imp_iff, beq_self_eq_true, forall_const, getElem_map, List.length_map, dIs, dIss, i112, i113, i114, g0, g7, g22, g106, g107, g108]
                (repeat' apply And.intro) <;> (try first | rfl | assumption | omega)
              · intro m env heap hm
                obtain ⟨g0, g7, g22, g106, g107, g108, i112, i113, i114, k118, k119, k120, hscr⟩ := (hK _ _ _).1 hm
                simp (disch := omega) only [go_sem, Nat.reduceEqDiff, Nat.reduceAdd, Nat.reduceMul, Nat.reduceSub, Nat.reduceLeDiff, ↓reduceIte, reduceCtorEq, Int.toNat_natCast, Int.sub_zero, Int.zero_add, Int.add_zero, Int.reduceAdd, Int.reduceSub, Int.reduceMul, Int.reduceNeg, Int.reduceToNat, Nat.add_sub_cancel, List.reduceReplicate, wrap64_id, List.length_cons, List.length_nil, List.all_cons, List.all_nil, Bool.and_true, Bool.true_and, Bool.or_false, Bool.false_or, List.take_succ_cons, List.take_zero, List.drop_succ_cons, List.drop_zero, decide_true, decide_false, Nat.mul_one, Nat.one_mul, Nat.zero_add, Nat.add_zero, Nat.mul_zero, Nat.zero_mul, Bool.not_true, Bool.not_false, Option.map_some, Option.map_none, Nat.le_refl, Nat.zero_lt_succ, ne_eq, not_true_eq_false, not_false_eq_true, Option.isSome_some, and_of, dec_true, dec_false, true_imp_iff, false_imp_iff, beq_self_eq_true, forall_const, getElem_map, List.length_map, dIs, dIss, k118, k119, k120, i112, i113, i114, g0, g7, g22, g106, g107, g108]
                refine ⟨j + 1, _, GhostS.refl _, (hJ _ _ _).2 ?_, by omega⟩
                simp (disch := omega) only [go_sem, Nat.reduceEqDiff, Nat.reduceAdd, Nat.reduceMul, Nat.reduceSub, Nat.reduceLeDiff, ↓reduceIte, reduceCtorEq, Int.toNat_natCast, Int.sub_zero, Int.zero_add, Int.add_zero, Int.reduceAdd, Int.reduceSub, Int.reduceMul, Int.reduceNeg, Int.reduceToNat, Nat.add_sub_cancel, List.reduceReplicate, wrap64_id, List.length_cons, List.length_nil, List.all_cons, List.all_nil, Bool.and_true, Bool.true_and, Bool.or_false, Bool.false_or, List.take_succ_cons, List.take_zero, List.drop_succ_cons, List.drop_zero, decide_true, decide_false, Nat.mul_one, Nat.one_mul, Nat.zero_add, Nat.add_zero, Nat.mul_zero, Nat.zero_mul, Bool.not_true, Bool.not_false, Option.map_some, Option.map_none, Nat.le_refl, Nat.zero_lt_succ, ne_eq, not_true_eq_false, not_false_eq_true, Option.isSome_some, and_of, dec_true, dec_false, true_imp_iff, false_imp_iff, beq_self_eq_true, forall_const, getElem_map, List.length_map, dIs, dIss, k118, k119, k120, i112, i113, i114, g0, g7, g22, g106, g107, g108]
                (repeat' apply And.intro) <;> (try first | rfl | assumption | omega)

            · simp (disch := omega) only [go_sem, Nat.reduceEqDiff, Nat.reduceAdd, Nat.reduceMul, Nat.reduceSub, Nat.reduceLeDiff, ↓reduceIte, reduceCtorEq, Int.toNat_natCast, Int.sub_zero, Int.zero_add, Int.add_zero, Int.reduceAdd, Int.reduceSub, Int.reduceMul, Int.reduceNeg, Int.reduceToNat, Nat.add_sub_cancel, List.reduceReplicate, wrap64_id, List.length_cons, List.length_nil, List.all_cons, List.all_nil, Bool.and_true, Bool.true_and, Bool.or_false, Bool.false_or, List.take_succ_cons, List.take_zero, List.drop_succ_cons, List.drop_zero, decide_true, decide_false, Nat.mul_one, Nat.one_mul, Nat.zero_add, Nat.add_zero, Nat.mul_zero, Nat.zero_mul, Bool.not_true, Bool.not_false, Option.map_some, Option.map_none, Nat.le_refl, Nat.zero_lt_succ, ne_eq, not_true_eq_false, not_false_eq_true, Option.isSome_some, and_of, dec_true, dec_false, true_imp_iff, false_imp_iff, beq_self_eq_true, forall_const, getElem_map, List.length_map, dIs, dIss, i112, i113, i114, g0, g7, g22, g106, g107, g108, hoo, hvj]
              obtain ⟨K, hK⟩ : ∃ K : Nat → (Nat → DVal) → DHeap → Prop, ∀ m env heap, K m env heap ↔ (env 0 = dIss q ∧ env 7 = dIss q ∧ env 22 = .bool true ∧ env 106 = .oslice 1 rb 0 3 3 ∧ env 107 = dI 3 ∧ env 108 = dI k ∧ env 112 = .oslice 1 ro 0 vs.length vs.length ∧ env 113 = dI vs.length ∧ env 114 = dI j ∧ env 26 = .oslice 1 r off len lo ∧ env 118 = .oslice 1 r off len lo ∧ env 119 = dI len ∧ env 120 = dI m ∧ m ≤ len ∧ Scr 3 H Hx heap) := ⟨_, fun _ _ _ => Iff.rfl⟩
              refine DLoop.run K (fun m => len - m) 0 ((hK _ _ _).2 ?_) ?_
              · simp (disch := omega) only [go_sem, Nat.reduceEqDiff, Nat.reduceAdd, Nat.reduceMul, Nat.reduceSub, Nat.reduceLeDiff, ↓reduceIte, reduceCtorEq, Int.toNat_natCast, Int.sub_zero, Int.zero_add, Int.add_zero, Int.reduceAdd, Int.reduceSub, Int.reduceMul, Int.reduceNeg, Int.reduceToNat, Nat.add_sub_cancel, List.reduceReplicate, wrap64_id, List.length_cons, List.length_nil, List.all_cons, List.all_nil, Bool.and_true, Bool.true_and, Bool.or_false, Bool.false_or, List.take_succ_cons, List.take_zero, List.drop_succ_cons, List.drop_zero, decide_true, decide_false, Nat.mul_one, Nat.one_mul, Nat.zero_add, Nat.add_zero, Nat.mul_zero, Nat.zero_mul, Bool.not_true, Bool.not_false, Option.map_some, Option.map_none, Nat.le_refl, Nat.zero_lt_succ, ne_eq, not_true_eq_false, not_false_eq_true, Option.isSome_some, and_of, dec_true, dec_false, true_imp_iff, false_imp_iff, beq_self_eq_true, forall_const, getElem_map, List.length_map, dIs, dIss, i112, i113, i114, g0, g7, g22, g106, g107, g108]
                (repeat' apply And.intro) <;> (try first | rfl | assumption | omega)
              · intro m env heap hm
                obtain ⟨g0, g7, g22, g106, g107, g108, i112, i113, i114, k26, k118, k119, k120, hml, hscr⟩ := (hK _ _ _).1 hm
                by_cases hltm : m < len
                · obtain ⟨cs', hcs, hcl⟩ := hscr.row hxr
                  have hix : off + m < cs'.length := by omega
                  simp (disch := omega) only [go_sem, Nat.reduceEqDiff, Nat.reduceAdd, Nat.reduceMul, Nat.reduceSub, Nat.reduceLeDiff, ↓reduceIte, reduceCtorEq, Int.toNat_natCast, Int.sub_zero, Int.zero_add, Int.add_zero, Int.reduceAdd, Int.reduceSub, Int.reduceMul, Int.reduceNeg, Int.reduceToNat, Nat.add_sub_cancel, List.reduceReplicate, wrap64_id, List.length_cons, List.length_nil, List.all_cons, List.all_nil, Bool.and_true, Bool.true_and, Bool.or_false, Bool.false_or, List.take_succ_cons, List.take_zero, List.drop_succ_cons, List.drop_zero, decide_true, decide_false, Nat.mul_one, Nat.one_mul, Nat.zero_add, Nat.add_zero, Nat.mul_zero, Nat.zero_mul, Bool.not_true, Bool.not_false, Option.map_some, Option.map_none, Nat.le_refl, Nat.zero_lt_succ, ne_eq, not_true_eq_false, not_false_eq_true, Option.isSome_some, and_of, dec_true, dec_false, true_imp_iff, false_imp_iff, beq_self_eq_true, forall_const, getElem_map, List.length_map, dIs, dIss, k26, k118, k119, k120, i112, i113, i114, g0, g7, g22, g106, g107, g108, hcs]
                  refine ⟨m + 1, _, GhostS.refl _, (hK _ _ _).2 ?_, by omega⟩
                  simp (disch := omega) only [go_sem, Nat.reduceEqDiff, Nat.reduceAdd, Nat.reduceMul, Nat.reduceSub, Nat.reduceLeDiff, ↓reduceIte, reduceCtorEq, Int.toNat_natCast, Int.sub_zero, Int.zero_add, Int.add_zero, Int.reduceAdd, Int.reduceSub, Int.reduceMul, Int.reduceNeg, Int.reduceToNat, Nat.add_sub_cancel, List.reduceReplicate, wrap64_id, List.length_cons, List.length_nil, List.all_cons, List.all_nil, Bool.and_true, Bool.true_and, Bool.or_false, Bool.false_or, List.take_succ_cons, List.take_zero, List.drop_succ_cons, List.drop_zero, decide_true, decide_false, Nat.mul_one, Nat.one_mul, Nat.zero_add, Nat.add_zero, Nat.mul_zero, Nat.zero_mul, Bool.not_true, Bool.not_false, Option.map_some, Option.map_none, Nat.le_refl, Nat.zero_lt_succ, ne_eq, not_true_eq_false, not_false_eq_true, Option.isSome_some, and_of, dec_true, dec_false, true_imp_iff, false_imp_iff, beq_self_eq_true, forall_const, getElem_map, List.length_map, dIs, dIss, k26, k118, k119, k120, i112, i113, i114, g0, g7, g22, g106, g107, g108]
                  (repeat' apply And.intro) <;> (try first | rfl | assumption | omega)
                  exact hscr.set hnr hxr (by rw [splice_setD _ _ _ hix, List.length_set, hcl])
                · simp (disch := omega) only [go_sem, Nat.reduceEqDiff, Nat.reduceAdd, Nat.reduceMul, Nat.reduceSub, Nat.reduceLeDiff, ↓reduceIte, reduceCtorEq, Int.toNat_natCast, Int.sub_zero, Int.zero_add, Int.add_zero, Int.reduceAdd, Int.reduceSub, Int.reduceMul, Int.reduceNeg, Int.reduceToNat, Nat.add_sub_cancel, List.reduceReplicate, wrap64_id, List.length_cons, List.length_nil, List.all_cons, List.all_nil, Bool.and_true, Bool.true_and, Bool.or_false, Bool.false_or, List.take_succ_cons, List.take_zero, List.drop_succ_cons, List.drop_zero, decide_true, decide_false, Nat.mul_one, Nat.one_mul, Nat.zero_add, Nat.add_zero, Nat.mul_zero, Nat.zero_mul, Bool.not_true, Bool.not_false, Option.map_some, Option.map_none, Nat.le_refl, Nat.zero_lt_succ, ne_eq, not_true_eq_false, not_false_eq_true, Option.isSome_some, and_of, dec_true, dec_false, true_imp_iff, false_imp_iff, beq_self_eq_true, forall_const, getElem_map, List.length_map, dIs, dIss, k26, k118, k119, k120, i112, i113, i114, g0, g7, g22, g106, g107, g108]
                  refine ⟨j + 1, _, GhostS.refl _, (hJ _ _ _).2 ?_, by omega⟩
                  simp (disch := omega) only [go_sem, Nat.reduceEqDiff, Nat.reduceAdd, Nat.reduceMul, Nat.reduceSub, Nat.reduceLeDiff, ↓reduceIte, reduceCtorEq, Int.toNat_natCast, Int.sub_zero, Int.zero_add, Int.add_zero, Int.reduceAdd, Int.reduceSub, Int.reduceMul, Int.reduceNeg, Int.reduceToNat, Nat.add_sub_cancel, List.reduceReplicate, wrap64_id, List.length_cons, List.length_nil, List.all_cons, List.all_nil, Bool.and_true, Bool.true_and, Bool.or_false, Bool.false_or, List.take_succ_cons, List.take_zero, List.drop_succ_cons, List.drop_zero, decide_true, decide_false, Nat.mul_one, Nat.one_mul, Nat.zero_add, Nat.add_zero, Nat.mul_zero, Nat.zero_mul, Bool.not_true, Bool.not_false, Option.map_some, Option.map_none, Nat.le_refl, Nat.zero_lt_succ, ne_eq, not_true_eq_false, not_false_eq_true, Option.isSome_some, and_of, dec_true, dec_false, true_imp_iff, false_imp_iff, beq_self_eq_true, forall_const, getElem_map, List.length_map, dIs, dIss, k26, k118, k119, k120, i112, i113, i114, g0, g7, g22, g106, g107, g108]
                  (repeat' apply And.intro) <;> (try first | rfl | assumption | omega)

          · simp (disch := omega) only [go_sem, Nat.reduceEqDiff, Nat.reduceAdd, Nat.reduceMul, Nat.reduceSub, Nat.reduceLeDiff, ↓reduceIte, reduceCtorEq, Int.toNat_natCast, Int.sub_zero, Int.zero_add, Int.add_zero, Int.reduceAdd, Int.reduceSub, Int.reduceMul, Int.reduceNeg, Int.reduceToNat, Nat.add_sub_cancel, List.reduceReplicate, wrap64_id, List.length_cons, List.length_nil, List.all_cons, List.all_nil, Bool.and_true, Bool.true_and, Bool.or_false, Bool.false_or, List.take_succ_cons, List.take_zero, List.drop_succ_cons, List.drop_zero, decide_true, decide_false, Nat.mul_one, Nat.one_mul, Nat.zero_add, Nat.add_zero, Nat.mul_zero, Nat.zero_mul, Bool.not_true, Bool.not_false, Option.map_some, Option.map_none, Nat.le_refl, Nat.zero_lt_succ, ne_eq, not_true_eq_false, not_false_eq_true, Option.isSome_some, and_of, dec_true, dec_false, true_imp_iff, false_imp_iff, beq_self_eq_true, forall_const, getElem_map, List.length_map, dIs, dIss, i112, i113, i114, g0, g7, g22, g106, g107, g108]
            refine ⟨k + 1, _, GhostS.refl _, (hI _ _ _).2 ?_, by omega⟩
            simp (disch := omega) only [go_sem, Nat.reduceEqDiff, Nat.reduceAdd, Nat.reduceMul, Nat.reduceSub, Nat.reduceLeDiff, ↓reduceIte, reduceCtorEq, Int.toNat_natCast, Int.sub_zero, Int.zero_add, Int.add_zero, Int.reduceAdd, Int.reduceSub, Int.reduceMul, Int.reduceNeg, Int.reduceToNat, Nat.add_sub_cancel, List.reduceReplicate, wrap64_id, List.length_cons, List.length_nil, List.all_cons, List.all_nil, Bool.and_true, Bool.true_and, Bool.or_false, Bool.false_or, List.take_succ_cons, List.take_zero, List.drop_succ_cons, List.drop_zero, decide_true, decide_false, Nat.mul_one, Nat.one_mul, Nat.zero_add, Nat.add_zero, Nat.mul_zero, Nat.zero_mul, Bool.not_true, Bool.not_false, Option.map_some, Option.map_none, Nat.le_refl, Nat.zero_lt_succ, ne_eq, not_true_eq_false, not_false_eq_true, Option.isSome_some, and_of, dec_true, dec_false, true_imp_iff, false_imp_iff, beq_self_eq_true, forall_const, getElem_map, List.length_map, dIs, dIss, i112, i113, i114, g0, g7, g22, g106, g107, g108]
            (repeat' apply And.intro) <;> (try first | rfl | assumption | omega)

    · simp (disch := omega) only [go_sem, Nat.reduceEqDiff, Nat.reduceAdd, Nat.reduceMul, Nat.reduceSub, Nat.reduceLeDiff, ↓reduceIte, reduceCtorEq, Int.toNat_natCast, Int.sub_zero, Int.zero_add, Int.add_zero, Int.reduceAdd, Int.reduceSub, Int.reduceMul, Int.reduceNeg, Int.reduceToNat, Nat.add_sub_cancel, List.reduceReplicate, wrap64_id, List.length_cons, List.length_nil, List.all_cons, List.all_nil, Bool.and_true, Bool.true_and, Bool.or_false, Bool.false_or, List.take_succ_cons, List.take_zero, List.drop_succ_cons, List.drop_zero, decide_true, decide_false, Nat.mul_one, Nat.one_mul, Nat.zero_add, Nat.add_zero, Nat.mul_zero, Nat.zero_mul, Bool.not_true, Bool.not_false, Option.map_some, Option.map_none, Nat.le_refl, Nat.zero_lt_succ, ne_eq, not_true_eq_false, not_false_eq_true, Option.isSome_some, and_of, dec_true, dec_false, true_imp_iff, false_imp_iff, beq_self_eq_true, forall_const, getElem_map, List.length_map, dIs, dIss, g0, g7, g22, g106, g107, g108]
      refine (same_spec G q q _ hq hq hl' hl').mono ?_
      rintro _ heap ⟨rfl, rfl⟩
      simp (disch := omega) only [go_sem, Nat.reduceEqDiff, Nat.reduceAdd, Nat.reduceMul, Nat.reduceSub, Nat.reduceLeDiff, ↓reduceIte, reduceCtorEq, Int.toNat_natCast, Int.sub_zero, Int.zero_add, Int.add_zero, Int.reduceAdd, Int.reduceSub, Int.reduceMul, Int.reduceNeg, Int.reduceToNat, Nat.add_sub_cancel, List.reduceReplicate, wrap64_id, List.length_cons, List.length_nil, List.all_cons, List.all_nil, Bool.and_true, Bool.true_and, Bool.or_false, Bool.false_or, List.take_succ_cons, List.take_zero, List.drop_succ_cons, List.drop_zero, decide_true, decide_false, Nat.mul_one, Nat.one_mul, Nat.zero_add, Nat.add_zero, Nat.mul_zero, Nat.zero_mul, Bool.not_true, Bool.not_false, Option.map_some, Option.map_none, Nat.le_refl, Nat.zero_lt_succ, ne_eq, not_true_eq_false, not_false_eq_true, Option.isSome_some, and_of, dec_true, dec_false, true_imp_iff, false_imp_iff, beq_self_eq_true, forall_const, getElem_map, List.length_map, dIs, dIss, g0, g7, g22, g106, g107, g108]
      refine (awake31_spec G _).mono ?_
      rintro _ heap ⟨rfl, rfl⟩
      simp (disch := omega) only [go_sem, Nat.reduceEqDiff, Nat.reduceAdd, Nat.reduceMul, Nat.reduceSub, Nat.reduceLeDiff, ↓reduceIte, reduceCtorEq, Int.toNat_natCast, Int.sub_zero, Int.zero_add, Int.add_zero, Int.reduceAdd, Int.reduceSub, Int.reduceMul, Int.reduceNeg, Int.reduceToNat, Nat.add_sub_cancel, List.reduceReplicate, wrap64_id, List.length_cons, List.length_nil, List.all_cons, List.all_nil, Bool.and_true, Bool.true_and, Bool.or_false, Bool.false_or, List.take_succ_cons, List.take_zero, List.drop_succ_cons, List.drop_zero, decide_true, decide_false, Nat.mul_one, Nat.one_mul, Nat.zero_add, Nat.add_zero, Nat.mul_zero, Nat.zero_mul, Bool.not_true, Bool.not_false, Option.map_some, Option.map_none, Nat.le_refl, Nat.zero_lt_succ, ne_eq, not_true_eq_false, not_false_eq_true, Option.isSome_some, and_of, dec_true, dec_false, true_imp_iff, false_imp_iff, beq_self_eq_true, forall_const, getElem_map, List.length_map, dIs, dIss, g0, g7, g22, g106, g107, g108]
      exact DFin.sub (hscr.sub hsub) (DFin.refl ⟨rfl, rfl⟩)
end Go.Dl
