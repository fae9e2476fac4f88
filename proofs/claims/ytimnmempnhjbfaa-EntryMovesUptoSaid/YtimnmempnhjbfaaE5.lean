/- entry: check, with, Delete. -/
import Derived.Test.YtimnmempnhjbfaaE4
import Derived.Test.YtimnmempnhjbfaaE2
set_option linter.unusedSimpArgs false
set_option linter.unusedVariables false
namespace Go.Dl
open Go Go.Proofs
set_option maxRecDepth 10000

theorem splice_set {α : Type} (f : α → DVal) (l : List α) (e : Nat) (x : α) (h : e < l.length) : splice (l.map f) e [f x] = (l.set e x).map f := by
  unfold splice
  rw [List.set_eq_take_append_cons_drop, if_pos h]
  simp

theorem splice_end (a b c : List DVal) (h : c.length = b.length) : splice (a ++ c) a.length b = a ++ b := by
  unfold splice
  rw [List.take_left, List.drop_of_length_le (by simp; omega), List.append_nil]

theorem del_cells (l : List Int) (i : Nat) (h : i < l.length) : splice (splice (l.map dI) i ((l.map dI).drop (i + 1))) (l.length - 1) [dI 0] = (l.eraseIdx i).map dI ++ [dI 0] := by
  rw [List.eraseIdx_eq_take_drop_succ]
  have h1 : splice (l.map dI) i ((l.map dI).drop (i + 1)) = (l.take i ++ l.drop (i + 1)).map dI ++ (l.map dI).drop (l.length - 1) := by
    unfold splice
    rw [List.map_append, List.map_take, List.map_drop]
    congr 2
    simp; omega
  have h2 : ((l.take i ++ l.drop (i + 1)).map dI).length = l.length - 1 := by simp; omega
  rw [h1, ← h2, splice_end _ _ _ (by simp; omega)]

theorem delete_raw (G : Nat → DVal) (l : List Int) (i : Nat) (v : DVal) (H H0 : DHeap) (hl : l.length ≤ 1099511627776) (hi : i < l.length) (hv : OwnA H 3 1 l.length (l.map dI) v H0) :
    DCalls Try.prog G 66 [v, dI i, dI (i + 1)] H0 fun e H' => ∃ r, H r = none ∧ e = .ret (.oslice 1 r 0 (l.length - 1) l.length) ∧ H' = upd H r (some (.cells ((l.eraseIdx i).map dI ++ [dI 0]) 3)) := by
  rcases hv with ⟨h0, _⟩ | ⟨r, hr, hcl, rfl, rfl⟩
  · omega
  refine dcalls_intro Try.func66 Try.call66 rfl (by kernel_rfl) ?_
  have h1 : ¬ ((i : Int) = i + 1) := by omega
  simp (disch := omega) only [go_sem, Nat.reduceEqDiff, Nat.reduceAdd, Nat.reduceMul, Nat.reduceSub, Nat.reduceLeDiff, ↓reduceIte, reduceCtorEq, Int.toNat_natCast, Int.sub_zero, Int.zero_add, Int.add_zero, Int.reduceAdd, Int.reduceSub, Int.reduceMul, Int.reduceNeg, Int.reduceToNat, Nat.add_sub_cancel, List.reduceReplicate, wrap64_id, List.length_cons, List.length_nil, List.all_cons, List.all_nil, Bool.and_true, Bool.true_and, Bool.or_false, Bool.false_or, List.take_succ_cons, List.take_zero, List.drop_succ_cons, List.drop_zero, decide_true, decide_false, Nat.mul_one, Nat.one_mul, Nat.zero_add, Nat.add_zero, Nat.mul_zero, Nat.zero_mul, Bool.not_true, Bool.not_false, Option.map_some, Option.map_none, Nat.le_refl, Nat.zero_lt_succ, ne_eq, not_true_eq_false, not_false_eq_true, Option.isSome_some, and_of, dec_true, dec_false, true_imp_iff, false_imp_iff, beq_self_eq_true, forall_const, getElem_map, List.length_map, dIs, dIss, h1]
  refine dwp_draws (by kernel_rfl) (.take 0 (.take 1 (.take 2 (.take 3 (.take 4 (.take 5 (.go 6 [] (.take 7 .done)))))))) (by kernel_rfl) ?_
  simp (disch := omega) only [go_sem, Nat.reduceEqDiff, Nat.reduceAdd, Nat.reduceMul, Nat.reduceSub, Nat.reduceLeDiff, ↓reduceIte, reduceCtorEq, Int.toNat_natCast, Int.sub_zero, Int.zero_add, Int.add_zero, Int.reduceAdd, Int.reduceSub, Int.reduceMul, Int.reduceNeg, Int.reduceToNat, Nat.add_sub_cancel, List.reduceReplicate, wrap64_id, List.length_cons, List.length_nil, List.all_cons, List.all_nil, Bool.and_true, Bool.true_and, Bool.or_false, Bool.false_or, List.take_succ_cons, List.take_zero, List.drop_succ_cons, List.drop_zero, decide_true, decide_false, Nat.mul_one, Nat.one_mul, Nat.zero_add, Nat.add_zero, Nat.mul_zero, Nat.zero_mul, Bool.not_true, Bool.not_false, Option.map_some, Option.map_none, Nat.le_refl, Nat.zero_lt_succ, ne_eq, not_true_eq_false, not_false_eq_true, Option.isSome_some, and_of, dec_true, dec_false, true_imp_iff, false_imp_iff, beq_self_eq_true, forall_const, getElem_map, List.length_map, dIs, dIss]
  have e1 : ((i : Int) + 1).toNat = i + 1 := by omega
  have e2 : i + (l.length - (i + 1)) = l.length - 1 := by omega
  have e3 : ((l.map dI).drop (i + 1)).take (l.length - (i + 1)) = (l.map dI).drop (i + 1) := List.take_of_length_le (by simp)
  have e4 : l.length - (l.length - 1) = 1 := by omega
  simp only [e1, e3, Nat.sub_zero]
  simp only [e2, e4, List.replicate_one]
  rw [show splice (splice (l.map dI) i ((l.map dI).drop (i + 1))) (l.length - 1) [DVal.int .i64 0] = _ from del_cells l i hi]
  refine ⟨by simp, ?_, ?_, ?_⟩
  · rw [← List.map_drop]; exact ints_one _
  · have := del_cells l i hi
    simp only [splice, List.length_append, List.length_take, List.length_drop, List.length_map]; omega
  · exact DFin.refl ⟨r, hr, rfl, rfl⟩

theorem delete_own (G : Nat → DVal) (l : List Int) (i : Nat) (v : DVal) (H H0 : DHeap) (hl : l.length ≤ 1099511627776) (hi : i < l.length) (hv : OwnA H 3 1 l.length (l.map dI) v H0) :
    DCalls Try.prog G 66 [v, dI i, dI (i + 1)] H0 fun e H' => ∃ v, e = .ret v ∧ OwnB H 3 1 (l.length - 1) ((l.eraseIdx i).map dI) v H' :=
  (delete_raw G l i v H H0 hl hi hv).mono fun x H' ⟨r, h1, h2, h3⟩ => ⟨_, h2, .inr ⟨r, _, [dI 0], h1, by rw [List.length_map, List.length_eraseIdx, if_pos hi, Nat.mul_one], rfl, h3⟩⟩

theorem delete_spec (G : Nat → DVal) (l : List Int) (i : Nat) (v : DVal) (H H0 : DHeap) (hl : l.length ≤ 1099511627776) (hi : i < l.length) (hv : OwnA H 3 1 l.length (l.map dI) v H0) :
    DCalls Try.prog G 66 [v, dI i, dI (i + 1)] H0 (DRet (dIs (l.eraseIdx i)) H) := by
  have h1 := (delete_own G l i v H H0 hl hi hv)
  have h2 : l.length - 1 = (l.eraseIdx i).length := by rw [List.length_eraseIdx, if_pos hi]
  refine h1.ghost ?_
  rintro x H' ⟨v, rfl, hv⟩
  rw [h2] at hv
  exact ⟨v, _, H, rfl, hv.ghost, rfl, rfl⟩

/-- The error of queues, an entry and a task. -/
def chk (q : List (List Int)) (e t : Int) : Int := if mayQ q then (if 0 ≤ e ∧ e < q.length ∧ 0 ≤ t ∧ t < 32 then 0 else 4) else 2

theorem check_spec (G : Nat → DVal) (q : List (List Int)) (e t : Int) (H : DHeap) (hq : q.length ≤ 1099511627776) (hl : ∀ l ∈ q, l.length ≤ 1099511627776) : DCalls Try.prog G 61 [dIss q, dI e, dI t] H (DRet (dI (chk q e t)) H) := by
  refine dcalls_intro Try.func61 Try.call61 rfl (by kernel_rfl) ?_
  simp (disch := omega) only [go_sem, Nat.reduceEqDiff, Nat.reduceAdd, Nat.reduceMul, Nat.reduceSub, Nat.reduceLeDiff, ↓reduceIte, reduceCtorEq, Int.toNat_natCast, Int.sub_zero, Int.zero_add, Int.add_zero, Int.reduceAdd, Int.reduceSub, Int.reduceMul, Int.reduceNeg, Int.reduceToNat, Nat.add_sub_cancel, List.reduceReplicate, wrap64_id, List.length_cons, List.length_nil, List.all_cons, List.all_nil, Bool.and_true, Bool.true_and, Bool.or_false, Bool.false_or, List.take_succ_cons, List.take_zero, List.drop_succ_cons, List.drop_zero, decide_true, decide_false, Nat.mul_one, Nat.one_mul, Nat.zero_add, Nat.add_zero, Nat.mul_zero, Nat.zero_mul, Bool.not_true, Bool.not_false, Option.map_some, Option.map_none, Nat.le_refl, Nat.zero_lt_succ, ne_eq, not_true_eq_false, not_false_eq_true, Option.isSome_some, and_of, dec_true, dec_false, true_imp_iff, false_imp_iff, beq_self_eq_true, forall_const, getElem_map, List.length_map, dIs, dIss]
  refine (may_spec G q _ hq hl).mono ?_
  rintro _ _ ⟨rfl, rfl⟩
  cases hm : mayQ q with
  | false =>
    simp (disch := omega) only [go_sem, Nat.reduceEqDiff, Nat.reduceAdd, Nat.reduceMul, Nat.reduceSub, Nat.reduceLeDiff, ↓reduceIte, reduceCtorEq, Int.toNat_natCast, Int.sub_zero, Int.zero_add, Int.add_zero, Int.reduceAdd, Int.reduceSub, Int.reduceMul, Int.reduceNeg, Int.reduceToNat, Nat.add_sub_cancel, List.reduceReplicate, wrap64_id, List.length_cons, List.length_nil, List.all_cons, List.all_nil, Bool.and_true, Bool.true_and, Bool.or_false, Bool.false_or, List.take_succ_cons, List.take_zero, List.drop_succ_cons, List.drop_zero, decide_true, decide_false, Nat.mul_one, Nat.one_mul, Nat.zero_add, Nat.add_zero, Nat.mul_zero, Nat.zero_mul, Bool.not_true, Bool.not_false, Option.map_some, Option.map_none, Nat.le_refl, Nat.zero_lt_succ, ne_eq, not_true_eq_false, not_false_eq_true, Option.isSome_some, and_of, dec_true, dec_false, true_imp_iff, false_imp_iff, beq_self_eq_true, forall_const, getElem_map, List.length_map, dIs, dIss, hm]
    exact DFin.refl ⟨by simp [chk, hm], rfl⟩
  | true =>
    by_cases c1 : e < 0
    · simp (disch := omega) only [go_sem, Nat.reduceEqDiff, Nat.reduceAdd, Nat.reduceMul, Nat.reduceSub, Nat.reduceLeDiff, ↓reduceIte, reduceCtorEq, Int.toNat_natCast, Int.sub_zero, Int.zero_add, Int.add_zero, Int.reduceAdd, Int.reduceSub, Int.reduceMul, Int.reduceNeg, Int.reduceToNat, Nat.add_sub_cancel, List.reduceReplicate, wrap64_id, List.length_cons, List.length_nil, List.all_cons, List.all_nil, Bool.and_true, Bool.true_and, Bool.or_false, Bool.false_or, List.take_succ_cons, List.take_zero, List.drop_succ_cons, List.drop_zero, decide_true, decide_false, Nat.mul_one, Nat.one_mul, Nat.zero_add, Nat.add_zero, Nat.mul_zero, Nat.zero_mul, Bool.not_true, Bool.not_false, Option.map_some, Option.map_none, Nat.le_refl, Nat.zero_lt_succ, ne_eq, not_true_eq_false, not_false_eq_true, Option.isSome_some, and_of, dec_true, dec_false, true_imp_iff, false_imp_iff, beq_self_eq_true, forall_const, getElem_map, List.length_map, dIs, dIss, hm]
      exact DFin.refl ⟨by rw [chk, hm, if_pos rfl, if_neg (by omega)], rfl⟩
    by_cases c2 : (q.length : Int) ≤ e
    · simp (disch := omega) only [go_sem, Nat.reduceEqDiff, Nat.reduceAdd, Nat.reduceMul, Nat.reduceSub, Nat.reduceLeDiff, ↓reduceIte, reduceCtorEq, Int.toNat_natCast, Int.sub_zero, Int.zero_add, Int.add_zero, Int.reduceAdd, Int.reduceSub, Int.reduceMul, Int.reduceNeg, Int.reduceToNat, Nat.add_sub_cancel, List.reduceReplicate, wrap64_id, List.length_cons, List.length_nil, List.all_cons, List.all_nil, Bool.and_true, Bool.true_and, Bool.or_false, Bool.false_or, List.take_succ_cons, List.take_zero, List.drop_succ_cons, List.drop_zero, decide_true, decide_false, Nat.mul_one, Nat.one_mul, Nat.zero_add, Nat.add_zero, Nat.mul_zero, Nat.zero_mul, Bool.not_true, Bool.not_false, Option.map_some, Option.map_none, Nat.le_refl, Nat.zero_lt_succ, ne_eq, not_true_eq_false, not_false_eq_true, Option.isSome_some, and_of, dec_true, dec_false, true_imp_iff, false_imp_iff, beq_self_eq_true, forall_const, getElem_map, List.length_map, dIs, dIss, hm]
      exact DFin.refl ⟨by rw [chk, hm, if_pos rfl, if_neg (by omega)], rfl⟩
    by_cases c3 : t < 0
    · simp (disch := omega) only [go_sem, Nat.reduceEqDiff, Nat.reduceAdd, Nat.reduceMul, Nat.reduceSub, Nat.reduceLeDiff, ↓reduceIte, reduceCtorEq, Int.toNat_natCast, Int.sub_zero, Int.zero_add, Int.add_zero, Int.reduceAdd, Int.reduceSub, Int.reduceMul, Int.reduceNeg, Int.reduceToNat, Nat.add_sub_cancel, List.reduceReplicate, wrap64_id, List.length_cons, List.length_nil, List.all_cons, List.all_nil, Bool.and_true, Bool.true_and, Bool.or_false, Bool.false_or, List.take_succ_cons, List.take_zero, List.drop_succ_cons, List.drop_zero, decide_true, decide_false, Nat.mul_one, Nat.one_mul, Nat.zero_add, Nat.add_zero, Nat.mul_zero, Nat.zero_mul, Bool.not_true, Bool.not_false, Option.map_some, Option.map_none, Nat.le_refl, Nat.zero_lt_succ, ne_eq, not_true_eq_false, not_false_eq_true, Option.isSome_some, and_of, dec_true, dec_false, true_imp_iff, false_imp_iff, beq_self_eq_true, forall_const, getElem_map, List.length_map, dIs, dIss, hm]
      exact DFin.refl ⟨by rw [chk, hm, if_pos rfl, if_neg (by omega)], rfl⟩
    by_cases c4 : 32 ≤ t
    · simp (disch := omega) only [go_sem, Nat.reduceEqDiff, Nat.reduceAdd, Nat.reduceMul, Nat.reduceSub, Nat.reduceLeDiff, ↓reduceIte, reduceCtorEq, Int.toNat_natCast, Int.sub_zero, Int.zero_add, Int.add_zero, Int.reduceAdd, Int.reduceSub, Int.reduceMul, Int.reduceNeg, Int.reduceToNat, Nat.add_sub_cancel, List.reduceReplicate, wrap64_id, List.length_cons, List.length_nil, List.all_cons, List.all_nil, Bool.and_true, Bool.true_and, Bool.or_false, Bool.false_or, List.take_succ_cons, List.take_zero, List.drop_succ_cons, List.drop_zero, decide_true, decide_false, Nat.mul_one, Nat.one_mul, Nat.zero_add, Nat.add_zero, Nat.mul_zero, Nat.zero_mul, Bool.not_true, Bool.not_false, Option.map_some, Option.map_none, Nat.le_refl, Nat.zero_lt_succ, ne_eq, not_true_eq_false, not_false_eq_true, Option.isSome_some, and_of, dec_true, dec_false, true_imp_iff, false_imp_iff, beq_self_eq_true, forall_const, getElem_map, List.length_map, dIs, dIss, hm]
      exact DFin.refl ⟨by rw [chk, hm, if_pos rfl, if_neg (by omega)], rfl⟩
    · simp (disch := omega) only [go_sem, Nat.reduceEqDiff, Nat.reduceAdd, Nat.reduceMul, Nat.reduceSub, Nat.reduceLeDiff, ↓reduceIte, reduceCtorEq, Int.toNat_natCast, Int.sub_zero, Int.zero_add, Int.add_zero, Int.reduceAdd, Int.reduceSub, Int.reduceMul, Int.reduceNeg, Int.reduceToNat, Nat.add_sub_cancel, List.reduceReplicate, wrap64_id, List.length_cons, List.length_nil, List.all_cons, List.all_nil, Bool.and_true, Bool.true_and, Bool.or_false, Bool.false_or, List.take_succ_cons, List.take_zero, List.drop_succ_cons, List.drop_zero, decide_true, decide_false, Nat.mul_one, Nat.one_mul, Nat.zero_add, Nat.add_zero, Nat.mul_zero, Nat.zero_mul, Bool.not_true, Bool.not_false, Option.map_some, Option.map_none, Nat.le_refl, Nat.zero_lt_succ, ne_eq, not_true_eq_false, not_false_eq_true, Option.isSome_some, and_of, dec_true, dec_false, true_imp_iff, false_imp_iff, beq_self_eq_true, forall_const, getElem_map, List.length_map, dIs, dIss, hm]
      exact DFin.refl ⟨by rw [chk, hm, if_pos rfl, if_pos (by omega)], rfl⟩

/-- A slice of n lists that is filled up to l. -/
def FillR (H : DHeap) (n : Nat) (l : List (List Int)) (v : DVal) (heap : DHeap) : Prop :=
  ∃ r, H r = none ∧ v = .oslice 1 r 0 n n ∧ heap = upd H r (some (.cells (l.map dIs ++ List.replicate (n - l.length) .nilSlice) 37))

theorem with_spec (G : Nat → DVal) (q : List (List Int)) (e : Nat) (l : List Int) (H : DHeap) (he : e < q.length) (hq : q.length ≤ 1099511627776) (hl : ∀ l ∈ q, l.length ≤ 1099511627776) :
    DCalls Try.prog G 62 [dIss q, dI e, dIs l] H (DRet (dIss (q.set e l)) H) := by
  refine dcalls_intro Try.func62 Try.call62 rfl (by kernel_rfl) ?_
  simp (disch := omega) only [go_sem, Nat.reduceEqDiff, Nat.reduceAdd, Nat.reduceMul, Nat.reduceSub, Nat.reduceLeDiff, ↓reduceIte, reduceCtorEq, Int.toNat_natCast, Int.sub_zero, Int.zero_add, Int.add_zero, Int.reduceAdd, Int.reduceSub, Int.reduceMul, Int.reduceNeg, Int.reduceToNat, Nat.add_sub_cancel, List.reduceReplicate, wrap64_id, List.length_cons, List.length_nil, List.all_cons, List.all_nil, Bool.and_true, Bool.true_and, Bool.or_false, Bool.false_or, List.take_succ_cons, List.take_zero, List.drop_succ_cons, List.drop_zero, decide_true, decide_false, Nat.mul_one, Nat.one_mul, Nat.zero_add, Nat.add_zero, Nat.mul_zero, Nat.zero_mul, Bool.not_true, Bool.not_false, Option.map_some, Option.map_none, Nat.le_refl, Nat.zero_lt_succ, ne_eq, not_true_eq_false, not_false_eq_true, Option.isSome_some, and_of, dec_true, dec_false, true_imp_iff, false_imp_iff, beq_self_eq_true, forall_const, getElem_map, List.length_map, dIs, dIss]
  intro r hr; dsimp only at hr
  simp (disch := omega) only [go_sem, Nat.reduceEqDiff, Nat.reduceAdd, Nat.reduceMul, Nat.reduceSub, Nat.reduceLeDiff, ↓reduceIte, reduceCtorEq, Int.toNat_natCast, Int.sub_zero, Int.zero_add, Int.add_zero, Int.reduceAdd, Int.reduceSub, Int.reduceMul, Int.reduceNeg, Int.reduceToNat, Nat.add_sub_cancel, List.reduceReplicate, wrap64_id, List.length_cons, List.length_nil, List.all_cons, List.all_nil, Bool.and_true, Bool.true_and, Bool.or_false, Bool.false_or, List.take_succ_cons, List.take_zero, List.drop_succ_cons, List.drop_zero, decide_true, decide_false, Nat.mul_one, Nat.one_mul, Nat.zero_add, Nat.add_zero, Nat.mul_zero, Nat.zero_mul, Bool.not_true, Bool.not_false, Option.map_some, Option.map_none, Nat.le_refl, Nat.zero_lt_succ, ne_eq, not_true_eq_false, not_false_eq_true, Option.isSome_some, and_of, dec_true, dec_false, true_imp_iff, false_imp_iff, beq_self_eq_true, forall_const, getElem_map, List.length_map, dIs, dIss]
  obtain ⟨I, hI⟩ : ∃ I : Nat → (Nat → DVal) → DHeap → Prop, ∀ k env heap, I k env heap ↔ (env 0 = dIss q ∧ env 1 = dI e ∧ env 2 = dIs l ∧ env 13 = dI q.length ∧ env 14 = dI k ∧ k ≤ q.length ∧ FillR H q.length (q.take k) (env 7) heap) := ⟨_, fun _ _ _ => Iff.rfl⟩
  refine DLoop.run I (fun k => q.length - k) 0 ((hI _ _ _).2 ?_) ?_
  · simp (disch := omega) only [go_sem, Nat.reduceEqDiff, Nat.reduceAdd, Nat.reduceMul, Nat.reduceSub, Nat.reduceLeDiff, ↓reduceIte, reduceCtorEq, Int.toNat_natCast, Int.sub_zero, Int.zero_add, Int.add_zero, Int.reduceAdd, Int.reduceSub, Int.reduceMul, Int.reduceNeg, Int.reduceToNat, Nat.add_sub_cancel, List.reduceReplicate, wrap64_id, List.length_cons, List.length_nil, List.all_cons, List.all_nil, Bool.and_true, Bool.true_and, Bool.or_false, Bool.false_or, List.take_succ_cons, List.take_zero, List.drop_succ_cons, List.drop_zero, decide_true, decide_false, Nat.mul_one, Nat.one_mul, Nat.zero_add, Nat.add_zero, Nat.mul_zero, Nat.zero_mul, Bool.not_true, Bool.not_false, Option.map_some, Option.map_none, Nat.le_refl, Nat.zero_lt_succ, ne_eq, not_true_eq_false, not_false_eq_true, Option.isSome_some, and_of, dec_true, dec_false, true_imp_iff, false_imp_iff, beq_self_eq_true, forall_const, getElem_map, List.length_map, dIs, dIss]
    (repeat' apply And.intro) <;> (try first | rfl | assumption | omega)
    exact ⟨r, hr, rfl, by simp⟩
  · intro k env heap hk
    obtain ⟨h0, h1, h2, h13, h14, hk, r, hr, h7, rfl⟩ := (hI _ _ _).1 hk
    by_cases hlt : k < q.length
    · simp (disch := omega) only [go_sem, Nat.reduceEqDiff, Nat.reduceAdd, Nat.reduceMul, Nat.reduceSub, Nat.reduceLeDiff, ↓reduceIte, reduceCtorEq, Int.toNat_natCast, Int.sub_zero, Int.zero_add, Int.add_zero, Int.reduceAdd, Int.reduceSub, Int.reduceMul, Int.reduceNeg, Int.reduceToNat, Nat.add_sub_cancel, List.reduceReplicate, wrap64_id, List.length_cons, List.length_nil, List.all_cons, List.all_nil, Bool.and_true, Bool.true_and, Bool.or_false, Bool.false_or, List.take_succ_cons, List.take_zero, List.drop_succ_cons, List.drop_zero, decide_true, decide_false, Nat.mul_one, Nat.one_mul, Nat.zero_add, Nat.add_zero, Nat.mul_zero, Nat.zero_mul, Bool.not_true, Bool.not_false, Option.map_some, Option.map_none, Nat.le_refl, Nat.zero_lt_succ, ne_eq, not_true_eq_false, not_false_eq_true, Option.isSome_some, and_of, dec_true, dec_false, true_imp_iff, false_imp_iff, beq_self_eq_true, forall_const, getElem_map, List.length_map, dIs, dIss, h0, h1, h2, h13, h14, h7]
      refine (clone_spec G q[k] _ (hl _ (List.getElem_mem hlt))).mono ?_
      rintro _ _ ⟨rfl, rfl⟩
      simp (disch := omega) only [go_sem, Nat.reduceEqDiff, Nat.reduceAdd, Nat.reduceMul, Nat.reduceSub, Nat.reduceLeDiff, ↓reduceIte, reduceCtorEq, Int.toNat_natCast, Int.sub_zero, Int.zero_add, Int.add_zero, Int.reduceAdd, Int.reduceSub, Int.reduceMul, Int.reduceNeg, Int.reduceToNat, Nat.add_sub_cancel, List.reduceReplicate, wrap64_id, List.length_cons, List.length_nil, List.all_cons, List.all_nil, Bool.and_true, Bool.true_and, Bool.or_false, Bool.false_or, List.take_succ_cons, List.take_zero, List.drop_succ_cons, List.drop_zero, decide_true, decide_false, Nat.mul_one, Nat.one_mul, Nat.zero_add, Nat.add_zero, Nat.mul_zero, Nat.zero_mul, Bool.not_true, Bool.not_false, Option.map_some, Option.map_none, Nat.le_refl, Nat.zero_lt_succ, ne_eq, not_true_eq_false, not_false_eq_true, Option.isSome_some, and_of, dec_true, dec_false, true_imp_iff, false_imp_iff, beq_self_eq_true, forall_const, getElem_map, List.length_map, dIs, dIss, h0, h1, h2, h13, h14, h7]
      have htl : (q.take k).length = k := by rw [List.length_take]; omega
      refine ⟨by rw [List.length_append, List.length_map, htl, List.length_replicate]; omega, k + 1, _, GhostS.refl _, (hI _ _ _).2 ?_, by omega⟩
      simp (disch := omega) only [go_sem, Nat.reduceEqDiff, Nat.reduceAdd, Nat.reduceMul, Nat.reduceSub, Nat.reduceLeDiff, ↓reduceIte, reduceCtorEq, Int.toNat_natCast, Int.sub_zero, Int.zero_add, Int.add_zero, Int.reduceAdd, Int.reduceSub, Int.reduceMul, Int.reduceNeg, Int.reduceToNat, Nat.add_sub_cancel, List.reduceReplicate, wrap64_id, List.length_cons, List.length_nil, List.all_cons, List.all_nil, Bool.and_true, Bool.true_and, Bool.or_false, Bool.false_or, List.take_succ_cons, List.take_zero, List.drop_succ_cons, List.drop_zero, decide_true, decide_false, Nat.mul_one, Nat.one_mul, Nat.zero_add, Nat.add_zero, Nat.mul_zero, Nat.zero_mul, Bool.not_true, Bool.not_false, Option.map_some, Option.map_none, Nat.le_refl, Nat.zero_lt_succ, ne_eq, not_true_eq_false, not_false_eq_true, Option.isSome_some, and_of, dec_true, dec_false, true_imp_iff, false_imp_iff, beq_self_eq_true, forall_const, getElem_map, List.length_map, dIs, dIss, h0, h1, h2, h13, h14, h7]
      (repeat' apply And.intro) <;> (try first | rfl | assumption | omega)
      refine ⟨r, hr, rfl, ?_⟩
      have := splice_fill ((q.take k).map dIs) [dIs q[k]] (q.length - k) .nilSlice (by simp; omega)
      rw [List.length_map, htl] at this
      rw [htl, show [DVal.vslice (q[k].map dI) q[k].length] = [dIs q[k]] from rfl, this, List.take_add_one, List.getElem?_eq_getElem hlt, List.map_append, List.length_append, htl]
      rfl
    · simp (disch := omega) only [go_sem, Nat.reduceEqDiff, Nat.reduceAdd, Nat.reduceMul, Nat.reduceSub, Nat.reduceLeDiff, ↓reduceIte, reduceCtorEq, Int.toNat_natCast, Int.sub_zero, Int.zero_add, Int.add_zero, Int.reduceAdd, Int.reduceSub, Int.reduceMul, Int.reduceNeg, Int.reduceToNat, Nat.add_sub_cancel, List.reduceReplicate, wrap64_id, List.length_cons, List.length_nil, List.all_cons, List.all_nil, Bool.and_true, Bool.true_and, Bool.or_false, Bool.false_or, List.take_succ_cons, List.take_zero, List.drop_succ_cons, List.drop_zero, decide_true, decide_false, Nat.mul_one, Nat.one_mul, Nat.zero_add, Nat.add_zero, Nat.mul_zero, Nat.zero_mul, Bool.not_true, Bool.not_false, Option.map_some, Option.map_none, Nat.le_refl, Nat.zero_lt_succ, ne_eq, not_true_eq_false, not_false_eq_true, Option.isSome_some, and_of, dec_true, dec_false, true_imp_iff, false_imp_iff, beq_self_eq_true, forall_const, getElem_map, List.length_map, dIs, dIss, h0, h1, h2, h13, h14, h7]
      have hkq : k = q.length := by omega
      subst hkq
      simp only [List.take_length, Nat.sub_self, List.replicate_zero, List.append_nil]
      rw [show splice (q.map dIs) e [DVal.vslice (l.map dI) l.length] = _ from splice_set dIs q e l he]
      refine ⟨by simp; omega, OwnA.fin (H := H) (e := 37) (size := 1) (n := q.length) (cs := (q.set e l).map dIs) (.inr ⟨r, hr, by simp, rfl, rfl⟩) ⟨by rw [List.length_set], rfl⟩⟩
end Go.Dl
