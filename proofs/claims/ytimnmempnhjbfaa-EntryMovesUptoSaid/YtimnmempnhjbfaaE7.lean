/- entry: Put, Take, Remove. -/
import Derived.Test.YtimnmempnhjbfaaE6
set_option linter.unusedSimpArgs false
set_option linter.unusedVariables false
namespace Go.Dl
open Go Go.Proofs
set_option maxRecDepth 10000

theorem DLe.nilIs : DLe .nilSlice (dIs []) := DLe.nil
theorem DLe.nilIss : DLe .nilSlice (dIss []) := DLe.nil

/-- Put: the queues behind it (none where it is refused), the error. -/
def putL (q : List (List Int)) (e t : Int) : List (List Int) × Int :=
  if chk q e t ≠ 0 then ([], chk q e t) else if (findP q t).isSome then ([], 7) else (q.set e.toNat (q.getD e.toNat [] ++ [t]), 0)
def takeL (q : List (List Int)) (e : Int) : List (List Int) × Int × Int :=
  if chk q e 0 ≠ 0 then ([], 0, chk q e 0) else match q.getD e.toNat [] with
    | [] => ([], 0, 6)
    | t :: l => (q.set e.toNat l, t, 0)
def removeL (q : List (List Int)) (t : Int) : List (List Int) × Int :=
  if mayQ q = false then ([], 2) else if ¬ (0 ≤ t ∧ t < 32) then ([], 4) else match findP q t with
    | none => ([], 6)
    | some p => (q.set p.1 ((q.getD p.1 []).eraseIdx (idx (q.getD p.1 []) t).toNat), 0)

theorem chk_zero {q : List (List Int)} {e t : Int} (h : chk q e t = 0) : mayQ q = true ∧ 0 ≤ e ∧ e < q.length ∧ 0 ≤ t ∧ t < 32 := by
  unfold chk at h
  split at h
  · rename_i hm
    split at h
    · rename_i h2; exact ⟨hm, h2⟩
    · omega
  · omega

theorem put_spec (G : Nat → DVal) (q : List (List Int)) (e t : Int) (H : DHeap) (hq : q.length ≤ 1099511627776) (hl : ∀ l ∈ q, l.length ≤ 1000000000) : DCalls Try.prog G 11 [dIss q, dI e, dI t] H (DRet (.tuple [dIss (putL q e t).1, dI (putL q e t).2]) H) := by
  have hl' : ∀ l ∈ q, l.length ≤ 1099511627776 := fun l h => Nat.le_trans (hl l h) (by omega)
  refine dcalls_intro Try.func11 Try.call11 rfl (by kernel_rfl) ?_
  simp (disch := omega) only [go_sem, Nat.reduceEqDiff, Nat.reduceAdd, Nat.reduceMul, Nat.reduceSub, Nat.reduceLeDiff, ↓reduceIte, reduceCtorEq, Int.toNat_natCast, Int.sub_zero, Int.zero_add, Int.add_zero, Int.reduceAdd, Int.reduceSub, Int.reduceMul, Int.reduceNeg, Int.reduceToNat, Nat.add_sub_cancel, List.reduceReplicate, wrap64_id, List.length_cons, List.length_nil, List.all_cons, List.all_nil, Bool.and_true, Bool.true_and, Bool.or_false, Bool.false_or, List.take_succ_cons, List.take_zero, List.drop_succ_cons, List.drop_zero, decide_true, decide_false, Nat.mul_one, Nat.one_mul, Nat.zero_add, Nat.add_zero, Nat.mul_zero, Nat.zero_mul, Bool.not_true, Bool.not_false, Option.map_some, Option.map_none, Nat.le_refl, Nat.zero_lt_succ, ne_eq, not_true_eq_false, not_false_eq_true, Option.isSome_some, and_of, dec_true, dec_false, true_imp_iff, false_imp_iff, beq_self_eq_true, forall_const, getElem_map, List.length_map, dIs, dIss]
  refine (check_spec G q e t _ hq hl').mono ?_
  rintro _ _ ⟨rfl, rfl⟩
  by_cases hc : chk q e t = 0
  · obtain ⟨hm, e0, e1, t0, t1⟩ := chk_zero hc
    obtain ⟨n, rfl⟩ : ∃ n : Nat, e = n := ⟨e.toNat, by omega⟩
    have hn : n < q.length := by omega
    simp (disch := omega) only [go_sem, Nat.reduceEqDiff, Nat.reduceAdd, Nat.reduceMul, Nat.reduceSub, Nat.reduceLeDiff, ↓reduceIte, reduceCtorEq, Int.toNat_natCast, Int.sub_zero, Int.zero_add, Int.add_zero, Int.reduceAdd, Int.reduceSub, Int.reduceMul, Int.reduceNeg, Int.reduceToNat, Nat.add_sub_cancel, List.reduceReplicate, wrap64_id, List.length_cons, List.length_nil, List.all_cons, List.all_nil, Bool.and_true, Bool.true_and, Bool.or_false, Bool.false_or, List.take_succ_cons, List.take_zero, List.drop_succ_cons, List.drop_zero, decide_true, decide_false, Nat.mul_one, Nat.one_mul, Nat.zero_add, Nat.add_zero, Nat.mul_zero, Nat.zero_mul, Bool.not_true, Bool.not_false, Option.map_some, Option.map_none, Nat.le_refl, Nat.zero_lt_succ, ne_eq, not_true_eq_false, not_false_eq_true, Option.isSome_some, and_of, dec_true, dec_false, true_imp_iff, false_imp_iff, beq_self_eq_true, forall_const, getElem_map, List.length_map, dIs, dIss, hc]
    refine (find_spec G q t _ hq hl').mono ?_
    rintro _ _ ⟨rfl, rfl⟩
    cases hf : findP q t with
    | some p =>
      simp (disch := omega) only [go_sem, Nat.reduceEqDiff, Nat.reduceAdd, Nat.reduceMul, Nat.reduceSub, Nat.reduceLeDiff, ↓reduceIte, reduceCtorEq, Int.toNat_natCast, Int.sub_zero, Int.zero_add, Int.add_zero, Int.reduceAdd, Int.reduceSub, Int.reduceMul, Int.reduceNeg, Int.reduceToNat, Nat.add_sub_cancel, List.reduceReplicate, wrap64_id, List.length_cons, List.length_nil, List.all_cons, List.all_nil, Bool.and_true, Bool.true_and, Bool.or_false, Bool.false_or, List.take_succ_cons, List.take_zero, List.drop_succ_cons, List.drop_zero, decide_true, decide_false, Nat.mul_one, Nat.one_mul, Nat.zero_add, Nat.add_zero, Nat.mul_zero, Nat.zero_mul, Bool.not_true, Bool.not_false, Option.map_some, Option.map_none, Nat.le_refl, Nat.zero_lt_succ, ne_eq, not_true_eq_false, not_false_eq_true, Option.isSome_some, and_of, dec_true, dec_false, true_imp_iff, false_imp_iff, beq_self_eq_true, forall_const, getElem_map, List.length_map, dIs, dIss, findD, hm, hf]
      refine DFin.le (DLe.tuple (.cons .nilIss (.refl _))) (DFin.refl ⟨?_, rfl⟩)
      simp [putL, hc, hf, dIss]
    | none =>
      simp (disch := omega) only [go_sem, Nat.reduceEqDiff, Nat.reduceAdd, Nat.reduceMul, Nat.reduceSub, Nat.reduceLeDiff, ↓reduceIte, reduceCtorEq, Int.toNat_natCast, Int.sub_zero, Int.zero_add, Int.add_zero, Int.reduceAdd, Int.reduceSub, Int.reduceMul, Int.reduceNeg, Int.reduceToNat, Nat.add_sub_cancel, List.reduceReplicate, wrap64_id, List.length_cons, List.length_nil, List.all_cons, List.all_nil, Bool.and_true, Bool.true_and, Bool.or_false, Bool.false_or, List.take_succ_cons, List.take_zero, List.drop_succ_cons, List.drop_zero, decide_true, decide_false, Nat.mul_one, Nat.one_mul, Nat.zero_add, Nat.add_zero, Nat.mul_zero, Nat.zero_mul, Bool.not_true, Bool.not_false, Option.map_some, Option.map_none, Nat.le_refl, Nat.zero_lt_succ, ne_eq, not_true_eq_false, not_false_eq_true, Option.isSome_some, and_of, dec_true, dec_false, true_imp_iff, false_imp_iff, beq_self_eq_true, forall_const, getElem_map, List.length_map, dIs, dIss, findD, hm, hf]
      intro ra ha; dsimp only at ha
      simp (disch := omega) only [go_sem, Nat.reduceEqDiff, Nat.reduceAdd, Nat.reduceMul, Nat.reduceSub, Nat.reduceLeDiff, ↓reduceIte, reduceCtorEq, Int.toNat_natCast, Int.sub_zero, Int.zero_add, Int.add_zero, Int.reduceAdd, Int.reduceSub, Int.reduceMul, Int.reduceNeg, Int.reduceToNat, Nat.add_sub_cancel, List.reduceReplicate, wrap64_id, List.length_cons, List.length_nil, List.all_cons, List.all_nil, Bool.and_true, Bool.true_and, Bool.or_false, Bool.false_or, List.take_succ_cons, List.take_zero, List.drop_succ_cons, List.drop_zero, decide_true, decide_false, Nat.mul_one, Nat.one_mul, Nat.zero_add, Nat.add_zero, Nat.mul_zero, Nat.zero_mul, Bool.not_true, Bool.not_false, Option.map_some, Option.map_none, Nat.le_refl, Nat.zero_lt_succ, ne_eq, not_true_eq_false, not_false_eq_true, Option.isSome_some, and_of, dec_true, dec_false, true_imp_iff, false_imp_iff, beq_self_eq_true, forall_const, getElem_map, List.length_map, dIs, dIss]
      intro rb hb; dsimp only at hb
      simp only [upd_eq_none] at hb
      simp (disch := omega) only [go_sem, Nat.reduceEqDiff, Nat.reduceAdd, Nat.reduceMul, Nat.reduceSub, Nat.reduceLeDiff, ↓reduceIte, reduceCtorEq, Int.toNat_natCast, Int.sub_zero, Int.zero_add, Int.add_zero, Int.reduceAdd, Int.reduceSub, Int.reduceMul, Int.reduceNeg, Int.reduceToNat, Nat.add_sub_cancel, List.reduceReplicate, wrap64_id, List.length_cons, List.length_nil, List.all_cons, List.all_nil, Bool.and_true, Bool.true_and, Bool.or_false, Bool.false_or, List.take_succ_cons, List.take_zero, List.drop_succ_cons, List.drop_zero, decide_true, decide_false, Nat.mul_one, Nat.one_mul, Nat.zero_add, Nat.add_zero, Nat.mul_zero, Nat.zero_mul, Bool.not_true, Bool.not_false, Option.map_some, Option.map_none, Nat.le_refl, Nat.zero_lt_succ, ne_eq, not_true_eq_false, not_false_eq_true, Option.isSome_some, and_of, dec_true, dec_false, true_imp_iff, false_imp_iff, beq_self_eq_true, forall_const, getElem_map, List.length_map, dIs, dIss, hb]
      refine DCalls.fzA rb (by simp [upd, hb]) ?_
      simp (disch := omega) only [go_sem, Nat.reduceEqDiff, Nat.reduceAdd, Nat.reduceMul, Nat.reduceSub, Nat.reduceLeDiff, ↓reduceIte, reduceCtorEq, Int.toNat_natCast, Int.sub_zero, Int.zero_add, Int.add_zero, Int.reduceAdd, Int.reduceSub, Int.reduceMul, Int.reduceNeg, Int.reduceToNat, Nat.add_sub_cancel, List.reduceReplicate, wrap64_id, List.length_cons, List.length_nil, List.all_cons, List.all_nil, Bool.and_true, Bool.true_and, Bool.or_false, Bool.false_or, List.take_succ_cons, List.take_zero, List.drop_succ_cons, List.drop_zero, decide_true, decide_false, Nat.mul_one, Nat.one_mul, Nat.zero_add, Nat.add_zero, Nat.mul_zero, Nat.zero_mul, Bool.not_true, Bool.not_false, Option.map_some, Option.map_none, Nat.le_refl, Nat.zero_lt_succ, ne_eq, not_true_eq_false, not_false_eq_true, Option.isSome_some, and_of, dec_true, dec_false, true_imp_iff, false_imp_iff, beq_self_eq_true, forall_const, getElem_map, List.length_map, dIs, dIss, hb]
      refine DCalls.fzA ra ha ?_
      simp (disch := omega) only [go_sem, Nat.reduceEqDiff, Nat.reduceAdd, Nat.reduceMul, Nat.reduceSub, Nat.reduceLeDiff, ↓reduceIte, reduceCtorEq, Int.toNat_natCast, Int.sub_zero, Int.zero_add, Int.add_zero, Int.reduceAdd, Int.reduceSub, Int.reduceMul, Int.reduceNeg, Int.reduceToNat, Nat.add_sub_cancel, List.reduceReplicate, wrap64_id, List.length_cons, List.length_nil, List.all_cons, List.all_nil, Bool.and_true, Bool.true_and, Bool.or_false, Bool.false_or, List.take_succ_cons, List.take_zero, List.drop_succ_cons, List.drop_zero, decide_true, decide_false, Nat.mul_one, Nat.one_mul, Nat.zero_add, Nat.add_zero, Nat.mul_zero, Nat.zero_mul, Bool.not_true, Bool.not_false, Option.map_some, Option.map_none, Nat.le_refl, Nat.zero_lt_succ, ne_eq, not_true_eq_false, not_false_eq_true, Option.isSome_some, and_of, dec_true, dec_false, true_imp_iff, false_imp_iff, beq_self_eq_true, forall_const, getElem_map, List.length_map, dIs, dIss, hb]
      have hln := hl q[n] (List.getElem_mem hn)
      refine (concat_spec G [q[n], [t]] _ (by simp) (by simp; omega)).mono ?_
      rintro _ _ ⟨rfl, rfl⟩
      simp (disch := omega) only [go_sem, Nat.reduceEqDiff, Nat.reduceAdd, Nat.reduceMul, Nat.reduceSub, Nat.reduceLeDiff, ↓reduceIte, reduceCtorEq, Int.toNat_natCast, Int.sub_zero, Int.zero_add, Int.add_zero, Int.reduceAdd, Int.reduceSub, Int.reduceMul, Int.reduceNeg, Int.reduceToNat, Nat.add_sub_cancel, List.reduceReplicate, wrap64_id, List.length_cons, List.length_nil, List.all_cons, List.all_nil, Bool.and_true, Bool.true_and, Bool.or_false, Bool.false_or, List.take_succ_cons, List.take_zero, List.drop_succ_cons, List.drop_zero, decide_true, decide_false, Nat.mul_one, Nat.one_mul, Nat.zero_add, Nat.add_zero, Nat.mul_zero, Nat.zero_mul, Bool.not_true, Bool.not_false, Option.map_some, Option.map_none, Nat.le_refl, Nat.zero_lt_succ, ne_eq, not_true_eq_false, not_false_eq_true, Option.isSome_some, and_of, dec_true, dec_false, true_imp_iff, false_imp_iff, beq_self_eq_true, forall_const, getElem_map, List.length_map, dIs, dIss]
      refine (with_spec G q n ([q[n], [t]] : List (List Int)).flatten _ hn hq hl').mono ?_
      rintro _ _ ⟨rfl, rfl⟩
      simp (disch := omega) only [go_sem, Nat.reduceEqDiff, Nat.reduceAdd, Nat.reduceMul, Nat.reduceSub, Nat.reduceLeDiff, ↓reduceIte, reduceCtorEq, Int.toNat_natCast, Int.sub_zero, Int.zero_add, Int.add_zero, Int.reduceAdd, Int.reduceSub, Int.reduceMul, Int.reduceNeg, Int.reduceToNat, Nat.add_sub_cancel, List.reduceReplicate, wrap64_id, List.length_cons, List.length_nil, List.all_cons, List.all_nil, Bool.and_true, Bool.true_and, Bool.or_false, Bool.false_or, List.take_succ_cons, List.take_zero, List.drop_succ_cons, List.drop_zero, decide_true, decide_false, Nat.mul_one, Nat.one_mul, Nat.zero_add, Nat.add_zero, Nat.mul_zero, Nat.zero_mul, Bool.not_true, Bool.not_false, Option.map_some, Option.map_none, Nat.le_refl, Nat.zero_lt_succ, ne_eq, not_true_eq_false, not_false_eq_true, Option.isSome_some, and_of, dec_true, dec_false, true_imp_iff, false_imp_iff, beq_self_eq_true, forall_const, getElem_map, List.length_map, dIs, dIss]
      refine DFin.refl ⟨?_, rfl⟩
      simp [putL, hc, hf, hn, dIss]
  · simp (disch := omega) only [go_sem, Nat.reduceEqDiff, Nat.reduceAdd, Nat.reduceMul, Nat.reduceSub, Nat.reduceLeDiff, ↓reduceIte, reduceCtorEq, Int.toNat_natCast, Int.sub_zero, Int.zero_add, Int.add_zero, Int.reduceAdd, Int.reduceSub, Int.reduceMul, Int.reduceNeg, Int.reduceToNat, Nat.add_sub_cancel, List.reduceReplicate, wrap64_id, List.length_cons, List.length_nil, List.all_cons, List.all_nil, Bool.and_true, Bool.true_and, Bool.or_false, Bool.false_or, List.take_succ_cons, List.take_zero, List.drop_succ_cons, List.drop_zero, decide_true, decide_false, Nat.mul_one, Nat.one_mul, Nat.zero_add, Nat.add_zero, Nat.mul_zero, Nat.zero_mul, Bool.not_true, Bool.not_false, Option.map_some, Option.map_none, Nat.le_refl, Nat.zero_lt_succ, ne_eq, not_true_eq_false, not_false_eq_true, Option.isSome_some, and_of, dec_true, dec_false, true_imp_iff, false_imp_iff, beq_self_eq_true, forall_const, getElem_map, List.length_map, dIs, dIss, hc]
    refine DFin.le (DLe.tuple (.cons .nilIss (.refl _))) (DFin.refl ⟨?_, rfl⟩)
    simp [putL, hc, dIss]

theorem take_spec (G : Nat → DVal) (q : List (List Int)) (e : Int) (H : DHeap) (hq : q.length ≤ 1099511627776) (hl : ∀ l ∈ q, l.length ≤ 1000000000) : DCalls Try.prog G 13 [dIss q, dI e] H (DRet (.tuple [dIss (takeL q e).1, dI (takeL q e).2.1, dI (takeL q e).2.2]) H) := by
  have hl' : ∀ l ∈ q, l.length ≤ 1099511627776 := fun l h => Nat.le_trans (hl l h) (by omega)
  refine dcalls_intro Try.func13 Try.call13 rfl (by kernel_rfl) ?_
  simp (disch := omega) only [go_sem, Nat.reduceEqDiff, Nat.reduceAdd, Nat.reduceMul, Nat.reduceSub, Nat.reduceLeDiff, ↓reduceIte, reduceCtorEq, Int.toNat_natCast, Int.sub_zero, Int.zero_add, Int.add_zero, Int.reduceAdd, Int.reduceSub, Int.reduceMul, Int.reduceNeg, Int.reduceToNat, Nat.add_sub_cancel, List.reduceReplicate, wrap64_id, List.length_cons, List.length_nil, List.all_cons, List.all_nil, Bool.and_true, Bool.true_and, Bool.or_false, Bool.false_or, List.take_succ_cons, List.take_zero, List.drop_succ_cons, List.drop_zero, decide_true, decide_false, Nat.mul_one, Nat.one_mul, Nat.zero_add, Nat.add_zero, Nat.mul_zero, Nat.zero_mul, Bool.not_true, Bool.not_false, Option.map_some, Option.map_none, Nat.le_refl, Nat.zero_lt_succ, ne_eq, not_true_eq_false, not_false_eq_true, Option.isSome_some, and_of, dec_true, dec_false, true_imp_iff, false_imp_iff, beq_self_eq_true, forall_const, getElem_map, List.length_map, dIs, dIss]
  refine (check_spec G q e 0 _ hq hl').mono ?_
  rintro _ _ ⟨rfl, rfl⟩
  by_cases hc : chk q e 0 = 0
  · obtain ⟨hm, e0, e1, t0, t1⟩ := chk_zero hc
    obtain ⟨n, rfl⟩ : ∃ n : Nat, e = n := ⟨e.toNat, by omega⟩
    have hn : n < q.length := by omega
    have hg : q.getD n [] = q[n] := by simp [hn]
    have hln := hl q[n] (List.getElem_mem hn)
    cases hq2 : q[n] with
    | nil =>
      simp (disch := omega) only [go_sem, Nat.reduceEqDiff, Nat.reduceAdd, Nat.reduceMul, Nat.reduceSub, Nat.reduceLeDiff, ↓reduceIte, reduceCtorEq, Int.toNat_natCast, Int.sub_zero, Int.zero_add, Int.add_zero, Int.reduceAdd, Int.reduceSub, Int.reduceMul, Int.reduceNeg, Int.reduceToNat, Nat.add_sub_cancel, List.reduceReplicate, wrap64_id, List.length_cons, List.length_nil, List.all_cons, List.all_nil, Bool.and_true, Bool.true_and, Bool.or_false, Bool.false_or, List.take_succ_cons, List.take_zero, List.drop_succ_cons, List.drop_zero, decide_true, decide_false, Nat.mul_one, Nat.one_mul, Nat.zero_add, Nat.add_zero, Nat.mul_zero, Nat.zero_mul, Bool.not_true, Bool.not_false, Option.map_some, Option.map_none, Nat.le_refl, Nat.zero_lt_succ, ne_eq, not_true_eq_false, not_false_eq_true, Option.isSome_some, and_of, dec_true, dec_false, true_imp_iff, false_imp_iff, beq_self_eq_true, forall_const, getElem_map, List.length_map, dIs, dIss, hc, hq2]
      refine DFin.le (DLe.tuple (.cons .nilIss (.refl _))) (DFin.refl ⟨?_, rfl⟩)
      simp only [takeL, hc, ne_eq, not_true_eq_false, if_false, Int.toNat_natCast, hg, hq2]
      simp [dIss]
    | cons u l =>
      rw [hq2] at hln
      simp only [List.length_cons] at hln
      simp (disch := omega) only [go_sem, Nat.reduceEqDiff, Nat.reduceAdd, Nat.reduceMul, Nat.reduceSub, Nat.reduceLeDiff, ↓reduceIte, reduceCtorEq, Int.toNat_natCast, Int.sub_zero, Int.zero_add, Int.add_zero, Int.reduceAdd, Int.reduceSub, Int.reduceMul, Int.reduceNeg, Int.reduceToNat, Nat.add_sub_cancel, List.reduceReplicate, wrap64_id, List.length_cons, List.length_nil, List.all_cons, List.all_nil, Bool.and_true, Bool.true_and, Bool.or_false, Bool.false_or, List.take_succ_cons, List.take_zero, List.drop_succ_cons, List.drop_zero, decide_true, decide_false, Nat.mul_one, Nat.one_mul, Nat.zero_add, Nat.add_zero, Nat.mul_zero, Nat.zero_mul, Bool.not_true, Bool.not_false, Option.map_some, Option.map_none, Nat.le_refl, Nat.zero_lt_succ, ne_eq, not_true_eq_false, not_false_eq_true, Option.isSome_some, and_of, dec_true, dec_false, true_imp_iff, false_imp_iff, beq_self_eq_true, forall_const, getElem_map, List.length_map, dIs, dIss, hc, hq2]
      refine dwp_draws (by kernel_rfl) (.take 0 (.take 1 (.take 2 (.take 3 (.take 6 (.take 7 (.take 8 (.go 4 [8] (.go 5 [8, 3] (.take 9 (.take 10 (.take 11 .done)))))))))))) (by kernel_rfl) ?_
      simp (disch := omega) only [go_sem, Nat.reduceEqDiff, Nat.reduceAdd, Nat.reduceMul, Nat.reduceSub, Nat.reduceLeDiff, ↓reduceIte, reduceCtorEq, Int.toNat_natCast, Int.sub_zero, Int.zero_add, Int.add_zero, Int.reduceAdd, Int.reduceSub, Int.reduceMul, Int.reduceNeg, Int.reduceToNat, Nat.add_sub_cancel, List.reduceReplicate, wrap64_id, List.length_cons, List.length_nil, List.all_cons, List.all_nil, Bool.and_true, Bool.true_and, Bool.or_false, Bool.false_or, List.take_succ_cons, List.take_zero, List.drop_succ_cons, List.drop_zero, decide_true, decide_false, Nat.mul_one, Nat.one_mul, Nat.zero_add, Nat.add_zero, Nat.mul_zero, Nat.zero_mul, Bool.not_true, Bool.not_false, Option.map_some, Option.map_none, Nat.le_refl, Nat.zero_lt_succ, ne_eq, not_true_eq_false, not_false_eq_true, Option.isSome_some, and_of, dec_true, dec_false, true_imp_iff, false_imp_iff, beq_self_eq_true, forall_const, getElem_map, List.length_map, dIs, dIss, hq2, List.map_cons]
      refine (clone_spec G l _ (by omega)).mono ?_
      rintro _ _ ⟨rfl, rfl⟩
      simp (disch := omega) only [go_sem, Nat.reduceEqDiff, Nat.reduceAdd, Nat.reduceMul, Nat.reduceSub, Nat.reduceLeDiff, ↓reduceIte, reduceCtorEq, Int.toNat_natCast, Int.sub_zero, Int.zero_add, Int.add_zero, Int.reduceAdd, Int.reduceSub, Int.reduceMul, Int.reduceNeg, Int.reduceToNat, Nat.add_sub_cancel, List.reduceReplicate, wrap64_id, List.length_cons, List.length_nil, List.all_cons, List.all_nil, Bool.and_true, Bool.true_and, Bool.or_false, Bool.false_or, List.take_succ_cons, List.take_zero, List.drop_succ_cons, List.drop_zero, decide_true, decide_false, Nat.mul_one, Nat.one_mul, Nat.zero_add, Nat.add_zero, Nat.mul_zero, Nat.zero_mul, Bool.not_true, Bool.not_false, Option.map_some, Option.map_none, Nat.le_refl, Nat.zero_lt_succ, ne_eq, not_true_eq_false, not_false_eq_true, Option.isSome_some, and_of, dec_true, dec_false, true_imp_iff, false_imp_iff, beq_self_eq_true, forall_const, getElem_map, List.length_map, dIs, dIss]
      refine (with_spec G q n l _ hn hq hl').mono ?_
      rintro _ _ ⟨rfl, rfl⟩
      simp (disch := omega) only [go_sem, Nat.reduceEqDiff, Nat.reduceAdd, Nat.reduceMul, Nat.reduceSub, Nat.reduceLeDiff, ↓reduceIte, reduceCtorEq, Int.toNat_natCast, Int.sub_zero, Int.zero_add, Int.add_zero, Int.reduceAdd, Int.reduceSub, Int.reduceMul, Int.reduceNeg, Int.reduceToNat, Nat.add_sub_cancel, List.reduceReplicate, wrap64_id, List.length_cons, List.length_nil, List.all_cons, List.all_nil, Bool.and_true, Bool.true_and, Bool.or_false, Bool.false_or, List.take_succ_cons, List.take_zero, List.drop_succ_cons, List.drop_zero, decide_true, decide_false, Nat.mul_one, Nat.one_mul, Nat.zero_add, Nat.add_zero, Nat.mul_zero, Nat.zero_mul, Bool.not_true, Bool.not_false, Option.map_some, Option.map_none, Nat.le_refl, Nat.zero_lt_succ, ne_eq, not_true_eq_false, not_false_eq_true, Option.isSome_some, and_of, dec_true, dec_false, true_imp_iff, false_imp_iff, beq_self_eq_true, forall_const, getElem_map, List.length_map, dIs, dIss]
      refine DFin.refl ⟨?_, rfl⟩
      simp only [takeL, hc, ne_eq, not_true_eq_false, if_false, Int.toNat_natCast, hg, hq2]
      try simp [dIss]
  · simp (disch := omega) only [go_sem, Nat.reduceEqDiff, Nat.reduceAdd, Nat.reduceMul, Nat.reduceSub, Nat.reduceLeDiff, ↓reduceIte, reduceCtorEq, Int.toNat_natCast, Int.sub_zero, Int.zero_add, Int.add_zero, Int.reduceAdd, Int.reduceSub, Int.reduceMul, Int.reduceNeg, Int.reduceToNat, Nat.add_sub_cancel, List.reduceReplicate, wrap64_id, List.length_cons, List.length_nil, List.all_cons, List.all_nil, Bool.and_true, Bool.true_and, Bool.or_false, Bool.false_or, List.take_succ_cons, List.take_zero, List.drop_succ_cons, List.drop_zero, decide_true, decide_false, Nat.mul_one, Nat.one_mul, Nat.zero_add, Nat.add_zero, Nat.mul_zero, Nat.zero_mul, Bool.not_true, Bool.not_false, Option.map_some, Option.map_none, Nat.le_refl, Nat.zero_lt_succ, ne_eq, not_true_eq_false, not_false_eq_true, Option.isSome_some, and_of, dec_true, dec_false, true_imp_iff, false_imp_iff, beq_self_eq_true, forall_const, getElem_map, List.length_map, dIs, dIss, hc]
    refine DFin.le (DLe.tuple (.cons .nilIss (.refl _))) (DFin.refl ⟨?_, rfl⟩)
    simp [takeL, hc, dIss]

theorem idx_found {l : List Int} {t : Int} (h : t ∈ l) : ∃ i : Nat, idx l t = i ∧ i < l.length := by
  unfold idx
  cases hf : l.findIdx? (fun x => decide (x = t)) with
  | none => exact absurd (List.findIdx?_eq_none_iff.1 hf t h) (by simp)
  | some i => exact ⟨i, rfl, (List.findIdx?_eq_some_iff_getElem.1 hf).1⟩

theorem findP_mem {q : List (List Int)} {t : Int} {p : Nat × Int} (h : findP q t = some p) : ∃ h : p.1 < q.length, p.2 = t ∧ t ∈ q[p.1] := by
  have h1 := List.mem_of_find?_eq_some h
  have h2 := List.find?_some h
  obtain ⟨h3, _, h5⟩ := clp_mem h1
  simp only [Nat.sub_zero, decide_eq_true_eq] at h2 h3 h5
  exact ⟨h3, h2, h2 ▸ h5⟩

theorem remove_spec (G : Nat → DVal) (q : List (List Int)) (t : Int) (H : DHeap) (hq : q.length ≤ 1099511627776) (hl : ∀ l ∈ q, l.length ≤ 1000000000) : DCalls Try.prog G 15 [dIss q, dI t] H (DRet (.tuple [dIss (removeL q t).1, dI (removeL q t).2]) H) := by
  have hl' : ∀ l ∈ q, l.length ≤ 1099511627776 := fun l h => Nat.le_trans (hl l h) (by omega)
  refine dcalls_intro Try.func15 Try.call15 rfl (by kernel_rfl) ?_
  simp (disch := omega) only [go_sem, Nat.reduceEqDiff, Nat.reduceAdd, Nat.reduceMul, Nat.reduceSub, Nat.reduceLeDiff, ↓reduceIte, reduceCtorEq, Int.toNat_natCast, Int.sub_zero, Int.zero_add, Int.add_zero, Int.reduceAdd, Int.reduceSub, Int.reduceMul, Int.reduceNeg, Int.reduceToNat, Nat.add_sub_cancel, List.reduceReplicate, wrap64_id, List.length_cons, List.length_nil, List.all_cons, List.all_nil, Bool.and_true, Bool.true_and, Bool.or_false, Bool.false_or, List.take_succ_cons, List.take_zero, List.drop_succ_cons, List.drop_zero, decide_true, decide_false, Nat.mul_one, Nat.one_mul, Nat.zero_add, Nat.add_zero, Nat.mul_zero, Nat.zero_mul, Bool.not_true, Bool.not_false, Option.map_some, Option.map_none, Nat.le_refl, Nat.zero_lt_succ, ne_eq, not_true_eq_false, not_false_eq_true, Option.isSome_some, and_of, dec_true, dec_false, true_imp_iff, false_imp_iff, beq_self_eq_true, forall_const, getElem_map, List.length_map, dIs, dIss]
  refine (may_spec G q _ hq hl').mono ?_
  rintro _ _ ⟨rfl, rfl⟩
  cases hm : mayQ q with
  | false =>
    simp (disch := omega) only [go_sem, Nat.reduceEqDiff, Nat.reduceAdd, Nat.reduceMul, Nat.reduceSub, Nat.reduceLeDiff, ↓reduceIte, reduceCtorEq, Int.toNat_natCast, Int.sub_zero, Int.zero_add, Int.add_zero, Int.reduceAdd, Int.reduceSub, Int.reduceMul, Int.reduceNeg, Int.reduceToNat, Nat.add_sub_cancel, List.reduceReplicate, wrap64_id, List.length_cons, List.length_nil, List.all_cons, List.all_nil, Bool.and_true, Bool.true_and, Bool.or_false, Bool.false_or, List.take_succ_cons, List.take_zero, List.drop_succ_cons, List.drop_zero, decide_true, decide_false, Nat.mul_one, Nat.one_mul, Nat.zero_add, Nat.add_zero, Nat.mul_zero, Nat.zero_mul, Bool.not_true, Bool.not_false, Option.map_some, Option.map_none, Nat.le_refl, Nat.zero_lt_succ, ne_eq, not_true_eq_false, not_false_eq_true, Option.isSome_some, and_of, dec_true, dec_false, true_imp_iff, false_imp_iff, beq_self_eq_true, forall_const, getElem_map, List.length_map, dIs, dIss, hm]
    refine DFin.le (DLe.tuple (.cons .nilIss (.refl _))) (DFin.refl ⟨?_, rfl⟩)
    simp [removeL, hm, dIss]
  | true =>
    by_cases c1 : t < 0
    · simp (disch := omega) only [go_sem, Nat.reduceEqDiff, Nat.reduceAdd, Nat.reduceMul, Nat.reduceSub, Nat.reduceLeDiff, ↓reduceIte, reduceCtorEq, Int.toNat_natCast, Int.sub_zero, Int.zero_add, Int.add_zero, Int.reduceAdd, Int.reduceSub, Int.reduceMul, Int.reduceNeg, Int.reduceToNat, Nat.add_sub_cancel, List.reduceReplicate, wrap64_id, List.length_cons, List.length_nil, List.all_cons, List.all_nil, Bool.and_true, Bool.true_and, Bool.or_false, Bool.false_or, List.take_succ_cons, List.take_zero, List.drop_succ_cons, List.drop_zero, decide_true, decide_false, Nat.mul_one, Nat.one_mul, Nat.zero_add, Nat.add_zero, Nat.mul_zero, Nat.zero_mul, Bool.not_true, Bool.not_false, Option.map_some, Option.map_none, Nat.le_refl, Nat.zero_lt_succ, ne_eq, not_true_eq_false, not_false_eq_true, Option.isSome_some, and_of, dec_true, dec_false, true_imp_iff, false_imp_iff, beq_self_eq_true, forall_const, getElem_map, List.length_map, dIs, dIss, hm]
      refine DFin.le (DLe.tuple (.cons .nilIss (.refl _))) (DFin.refl ⟨?_, rfl⟩)
      rw [removeL, hm, if_neg (by simp), if_pos (by omega)]; rfl
    by_cases c2 : 32 ≤ t
    · simp (disch := omega) only [go_sem, Nat.reduceEqDiff, Nat.reduceAdd, Nat.reduceMul, Nat.reduceSub, Nat.reduceLeDiff, ↓reduceIte, reduceCtorEq, Int.toNat_natCast, Int.sub_zero, Int.zero_add, Int.add_zero, Int.reduceAdd, Int.reduceSub, Int.reduceMul, Int.reduceNeg, Int.reduceToNat, Nat.add_sub_cancel, List.reduceReplicate, wrap64_id, List.length_cons, List.length_nil, List.all_cons, List.all_nil, Bool.and_true, Bool.true_and, Bool.or_false, Bool.false_or, List.take_succ_cons, List.take_zero, List.drop_succ_cons, List.drop_zero, decide_true, decide_false, Nat.mul_one, Nat.one_mul, Nat.zero_add, Nat.add_zero, Nat.mul_zero, Nat.zero_mul, Bool.not_true, Bool.not_false, Option.map_some, Option.map_none, Nat.le_refl, Nat.zero_lt_succ, ne_eq, not_true_eq_false, not_false_eq_true, Option.isSome_some, and_of, dec_true, dec_false, true_imp_iff, false_imp_iff, beq_self_eq_true, forall_const, getElem_map, List.length_map, dIs, dIss, hm]
      refine DFin.le (DLe.tuple (.cons .nilIss (.refl _))) (DFin.refl ⟨?_, rfl⟩)
      rw [removeL, hm, if_neg (by simp), if_pos (by omega)]; rfl
    simp (disch := omega) only [go_sem, Nat.reduceEqDiff, Nat.reduceAdd, Nat.reduceMul, Nat.reduceSub, Nat.reduceLeDiff, ↓reduceIte, reduceCtorEq, Int.toNat_natCast, Int.sub_zero, Int.zero_add, Int.add_zero, Int.reduceAdd, Int.reduceSub, Int.reduceMul, Int.reduceNeg, Int.reduceToNat, Nat.add_sub_cancel, List.reduceReplicate, wrap64_id, List.length_cons, List.length_nil, List.all_cons, List.all_nil, Bool.and_true, Bool.true_and, Bool.or_false, Bool.false_or, List.take_succ_cons, List.take_zero, List.drop_succ_cons, List.drop_zero, decide_true, decide_false, Nat.mul_one, Nat.one_mul, Nat.zero_add, Nat.add_zero, Nat.mul_zero, Nat.zero_mul, Bool.not_true, Bool.not_false, Option.map_some, Option.map_none, Nat.le_refl, Nat.zero_lt_succ, ne_eq, not_true_eq_false, not_false_eq_true, Option.isSome_some, and_of, dec_true, dec_false, true_imp_iff, false_imp_iff, beq_self_eq_true, forall_const, getElem_map, List.length_map, dIs, dIss, hm]
    refine (find_spec G q t _ hq hl').mono ?_
    rintro _ _ ⟨rfl, rfl⟩
    have hr : ∀ x, removeL q t = x ↔ (match findP q t with
      | none => (([], 6) : List (List Int) × Int)
      | some p => (q.set p.1 ((q.getD p.1 []).eraseIdx (idx (q.getD p.1 []) t).toNat), 0)) = x := fun x => by
      rw [removeL, hm, if_neg (by simp), if_neg (by omega)]
    cases hf : findP q t with
    | none =>
      simp (disch := omega) only [go_sem, Nat.reduceEqDiff, Nat.reduceAdd, Nat.reduceMul, Nat.reduceSub, Nat.reduceLeDiff, ↓reduceIte, reduceCtorEq, Int.toNat_natCast, Int.sub_zero, Int.zero_add, Int.add_zero, Int.reduceAdd, Int.reduceSub, Int.reduceMul, Int.reduceNeg, Int.reduceToNat, Nat.add_sub_cancel, List.reduceReplicate, wrap64_id, List.length_cons, List.length_nil, List.all_cons, List.all_nil, Bool.and_true, Bool.true_and, Bool.or_false, Bool.false_or, List.take_succ_cons, List.take_zero, List.drop_succ_cons, List.drop_zero, decide_true, decide_false, Nat.mul_one, Nat.one_mul, Nat.zero_add, Nat.add_zero, Nat.mul_zero, Nat.zero_mul, Bool.not_true, Bool.not_false, Option.map_some, Option.map_none, Nat.le_refl, Nat.zero_lt_succ, ne_eq, not_true_eq_false, not_false_eq_true, Option.isSome_some, and_of, dec_true, dec_false, true_imp_iff, false_imp_iff, beq_self_eq_true, forall_const, getElem_map, List.length_map, dIs, dIss, findD, hm, hf]
      refine DFin.le (DLe.tuple (.cons .nilIss (.refl _))) (DFin.refl ⟨?_, rfl⟩)
      rw [(hr _).2 (by rw [hf])]; rfl
    | some p =>
      obtain ⟨hp, hp2, hp3⟩ := findP_mem hf
      obtain ⟨i, hi, hil⟩ := idx_found hp3
      have hln := hl q[p.1] (List.getElem_mem hp)
      have hg : q.getD p.1 [] = q[p.1] := by simp [hp]
      simp (disch := omega) only [go_sem, Nat.reduceEqDiff, Nat.reduceAdd, Nat.reduceMul, Nat.reduceSub, Nat.reduceLeDiff, ↓reduceIte, reduceCtorEq, Int.toNat_natCast, Int.sub_zero, Int.zero_add, Int.add_zero, Int.reduceAdd, Int.reduceSub, Int.reduceMul, Int.reduceNeg, Int.reduceToNat, Nat.add_sub_cancel, List.reduceReplicate, wrap64_id, List.length_cons, List.length_nil, List.all_cons, List.all_nil, Bool.and_true, Bool.true_and, Bool.or_false, Bool.false_or, List.take_succ_cons, List.take_zero, List.drop_succ_cons, List.drop_zero, decide_true, decide_false, Nat.mul_one, Nat.one_mul, Nat.zero_add, Nat.add_zero, Nat.mul_zero, Nat.zero_mul, Bool.not_true, Bool.not_false, Option.map_some, Option.map_none, Nat.le_refl, Nat.zero_lt_succ, ne_eq, not_true_eq_false, not_false_eq_true, Option.isSome_some, and_of, dec_true, dec_false, true_imp_iff, false_imp_iff, beq_self_eq_true, forall_const, getElem_map, List.length_map, dIs, dIss, findD, hm, hf, hg, hi]
      refine (clone_own G q[p.1] _ (by omega)).mono ?_
      rintro _ H1 ⟨v, rfl, hv⟩
      simp (disch := omega) only [go_sem, Nat.reduceEqDiff, Nat.reduceAdd, Nat.reduceMul, Nat.reduceSub, Nat.reduceLeDiff, ↓reduceIte, reduceCtorEq, Int.toNat_natCast, Int.sub_zero, Int.zero_add, Int.add_zero, Int.reduceAdd, Int.reduceSub, Int.reduceMul, Int.reduceNeg, Int.reduceToNat, Nat.add_sub_cancel, List.reduceReplicate, wrap64_id, List.length_cons, List.length_nil, List.all_cons, List.all_nil, Bool.and_true, Bool.true_and, Bool.or_false, Bool.false_or, List.take_succ_cons, List.take_zero, List.drop_succ_cons, List.drop_zero, decide_true, decide_false, Nat.mul_one, Nat.one_mul, Nat.zero_add, Nat.add_zero, Nat.mul_zero, Nat.zero_mul, Bool.not_true, Bool.not_false, Option.map_some, Option.map_none, Nat.le_refl, Nat.zero_lt_succ, ne_eq, not_true_eq_false, not_false_eq_true, Option.isSome_some, and_of, dec_true, dec_false, true_imp_iff, false_imp_iff, beq_self_eq_true, forall_const, getElem_map, List.length_map, dIs, dIss]
      refine (delete_spec G q[p.1] i v _ _ (by omega) hil hv).mono ?_
      rintro _ _ ⟨rfl, rfl⟩
      simp (disch := omega) only [go_sem, Nat.reduceEqDiff, Nat.reduceAdd, Nat.reduceMul, Nat.reduceSub, Nat.reduceLeDiff, ↓reduceIte, reduceCtorEq, Int.toNat_natCast, Int.sub_zero, Int.zero_add, Int.add_zero, Int.reduceAdd, Int.reduceSub, Int.reduceMul, Int.reduceNeg, Int.reduceToNat, Nat.add_sub_cancel, List.reduceReplicate, wrap64_id, List.length_cons, List.length_nil, List.all_cons, List.all_nil, Bool.and_true, Bool.true_and, Bool.or_false, Bool.false_or, List.take_succ_cons, List.take_zero, List.drop_succ_cons, List.drop_zero, decide_true, decide_false, Nat.mul_one, Nat.one_mul, Nat.zero_add, Nat.add_zero, Nat.mul_zero, Nat.zero_mul, Bool.not_true, Bool.not_false, Option.map_some, Option.map_none, Nat.le_refl, Nat.zero_lt_succ, ne_eq, not_true_eq_false, not_false_eq_true, Option.isSome_some, and_of, dec_true, dec_false, true_imp_iff, false_imp_iff, beq_self_eq_true, forall_const, getElem_map, List.length_map, dIs, dIss]
      refine (with_spec G q p.1 (q[p.1].eraseIdx i) _ hp hq hl').mono ?_
      rintro _ _ ⟨rfl, rfl⟩
      simp (disch := omega) only [go_sem, Nat.reduceEqDiff, Nat.reduceAdd, Nat.reduceMul, Nat.reduceSub, Nat.reduceLeDiff, ↓reduceIte, reduceCtorEq, Int.toNat_natCast, Int.sub_zero, Int.zero_add, Int.add_zero, Int.reduceAdd, Int.reduceSub, Int.reduceMul, Int.reduceNeg, Int.reduceToNat, Nat.add_sub_cancel, List.reduceReplicate, wrap64_id, List.length_cons, List.length_nil, List.all_cons, List.all_nil, Bool.and_true, Bool.true_and, Bool.or_false, Bool.false_or, List.take_succ_cons, List.take_zero, List.drop_succ_cons, List.drop_zero, decide_true, decide_false, Nat.mul_one, Nat.one_mul, Nat.zero_add, Nat.add_zero, Nat.mul_zero, Nat.zero_mul, Bool.not_true, Bool.not_false, Option.map_some, Option.map_none, Nat.le_refl, Nat.zero_lt_succ, ne_eq, not_true_eq_false, not_false_eq_true, Option.isSome_some, and_of, dec_true, dec_false, true_imp_iff, false_imp_iff, beq_self_eq_true, forall_const, getElem_map, List.length_map, dIs, dIss]
      refine DFin.refl ⟨?_, rfl⟩
      rw [(hr _).2 (by rw [hf])]
      simp only [hg, hi, Int.toNat_natCast]
      try simp [dIss]

/-- How many callers each entry has. -/
def cntL (q : List (List Int)) : List Int := if mayQ q then q.map fun l => (l.length : Int) else []

theorem clp_count (q : List (List Int)) (s : Nat) (e : Nat) (h : e < q.length) : (clp s q).countP (fun p => p.1 = s + e) = q[e].length := by
  induction q generalizing s e with
  | nil => simp at h
  | cons l q ih =>
    simp only [clp, List.countP_append]
    cases e with
    | zero =>
      have h1 : (clp (s + 1) q).countP (fun p => p.1 = s + 0) = 0 := by
        rw [List.countP_eq_zero]
        intro p hp
        obtain ⟨_, h2, _⟩ := clp_mem hp
        simp; omega
      rw [h1]
      simp [List.countP_map, Function.comp_def]
    | succ e =>
      have h1 : (l.map (fun t => (s, t))).countP (fun p => p.1 = s + (e + 1)) = 0 := by
        rw [List.countP_eq_zero]
        intro p hp
        simp only [List.mem_map] at hp
        obtain ⟨t, _, rfl⟩ := hp
        simp
      have := ih (s + 1) e (by simpa using h)
      rw [h1]
      simp only [List.getElem_cons_succ, Nat.zero_add]
      rw [← this]
      congr 1
      funext p
      congr 1
      apply propext; constructor <;> intro <;> omega

def cntA (q : List (List Int)) (k : Nat) : List DVal := (List.range q.length).map fun e => dI (((clp 0 q).take k).countP (fun p => p.1 = e) : Nat)

theorem cntA_get (q : List (List Int)) (k e : Nat) (h : e < q.length) : (cntA q k)[e]? = some (dI (((clp 0 q).take k).countP (fun p => p.1 = e) : Nat)) := by simp [cntA, h]
theorem cntA_len (q : List (List Int)) (k : Nat) : (cntA q k).length = q.length := by simp [cntA]
theorem cntA_step (q : List (List Int)) (k : Nat) (p : Nat × Int) (h : (clp 0 q)[k]? = some p) (hp : p.1 < q.length) : splice (cntA q k) p.1 [dI ((((clp 0 q).take k).countP (fun x => x.1 = p.1) : Nat) + 1)] = cntA q (k + 1) := by
  have h1 := splice_set (fun e : Nat => dI (((clp 0 q).take (k + 1)).countP (fun x => x.1 = e) : Nat)) (List.range q.length) p.1 p.1 (by simpa using hp)
  have h2 : (List.range q.length).set p.1 p.1 = List.range q.length := by
    apply List.ext_getElem? ; intro j
    rw [List.getElem?_set]
    split
    · rename_i e; subst e; simp [hp]
    · rfl
  rw [h2] at h1
  show _ = (List.range q.length).map _
  rw [← h1]
  unfold splice
  have hs : ∀ e : Nat, ((clp 0 q).take (k + 1)).countP (fun x => x.1 = e) = ((clp 0 q).take k).countP (fun x => x.1 = e) + if p.1 = e then 1 else 0 := fun e => by
    rw [take_succ_get h, List.countP_append]; simp [List.countP_cons]
  have ht : (cntA q k).take p.1 = ((List.range q.length).map (fun e : Nat => dI (((clp 0 q).take (k + 1)).countP (fun x => x.1 = e) : Nat))).take p.1 := by
    apply List.ext_getElem?; intro j
    rw [List.getElem?_take, List.getElem?_take]
    split
    · rename_i hj
      rw [cntA_get _ _ _ (by omega)]
      simp only [List.getElem?_map, List.getElem?_range (show j < q.length by omega), Option.map_some, hs]
      rw [if_neg (by omega)]; rfl
    · rfl
  have hd : (cntA q k).drop (p.1 + 1) = ((List.range q.length).map (fun e : Nat => dI (((clp 0 q).take (k + 1)).countP (fun x => x.1 = e) : Nat))).drop (p.1 + 1) := by
    apply List.ext_getElem?; intro j
    rw [List.getElem?_drop, List.getElem?_drop]
    by_cases hj : p.1 + 1 + j < q.length
    · rw [cntA_get _ _ _ hj]
      simp only [List.getElem?_map, List.getElem?_range hj, Option.map_some, hs]
      rw [if_neg (by omega)]; rfl
    · rw [List.getElem?_eq_none (by rw [cntA_len]; omega), List.getElem?_eq_none (by simp; omega)]
  simp only [List.length_cons, List.length_nil, Nat.zero_add]
  rw [ht, hd, hs, if_pos rfl]
  rfl

theorem cntA_all (q : List (List Int)) : cntA q (clp 0 q).length = (q.map fun l => (l.length : Int)).map dI := by
  apply List.ext_getElem?; intro j
  by_cases hj : j < q.length
  · rw [cntA_get _ _ _ hj, List.take_length]
    have := clp_count q 0 j hj
    simp only [Nat.zero_add] at this
    simp [hj, this]
  · rw [List.getElem?_eq_none (by rw [cntA_len]; omega), List.getElem?_eq_none (by simp; omega)]

theorem counts_spec (G : Nat → DVal) (q : List (List Int)) (H : DHeap) (hq : q.length ≤ 1099511627776) (hl : ∀ l ∈ q, l.length ≤ 1000000000) (hf : q.flatten.length ≤ 1099511627776) : DCalls Try.prog G 30 [dIss q] H (DRet (dIs (cntL q)) H) := by
  have hl' : ∀ l ∈ q, l.length ≤ 1099511627776 := fun l h => Nat.le_trans (hl l h) (by omega)
  refine dcalls_intro Try.func30 Try.call30 rfl (by kernel_rfl) ?_
  simp (disch := omega) only [go_sem, Nat.reduceEqDiff, Nat.reduceAdd, Nat.reduceMul, Nat.reduceSub, Nat.reduceLeDiff, ↓reduceIte, reduceCtorEq, Int.toNat_natCast, Int.sub_zero, Int.zero_add, Int.add_zero, Int.reduceAdd, Int.reduceSub, Int.reduceMul, Int.reduceNeg, Int.reduceToNat, Nat.add_sub_cancel, List.reduceReplicate, wrap64_id, List.length_cons, List.length_nil, List.all_cons, List.all_nil, Bool.and_true, Bool.true_and, Bool.or_false, Bool.false_or, List.take_succ_cons, List.take_zero, List.drop_succ_cons, List.drop_zero, decide_true, decide_false, Nat.mul_one, Nat.one_mul, Nat.zero_add, Nat.add_zero, Nat.mul_zero, Nat.zero_mul, Bool.not_true, Bool.not_false, Option.map_some, Option.map_none, Nat.le_refl, Nat.zero_lt_succ, ne_eq, not_true_eq_false, not_false_eq_true, Option.isSome_some, and_of, dec_true, dec_false, true_imp_iff, false_imp_iff, beq_self_eq_true, forall_const, getElem_map, List.length_map, dIs, dIss]
  refine (may_spec G q _ hq hl').mono ?_
  rintro _ _ ⟨rfl, rfl⟩
  cases hm : mayQ q with
  | false =>
    simp (disch := omega) only [go_sem, Nat.reduceEqDiff, Nat.reduceAdd, Nat.reduceMul, Nat.reduceSub, Nat.reduceLeDiff, ↓reduceIte, reduceCtorEq, Int.toNat_natCast, Int.sub_zero, Int.zero_add, Int.add_zero, Int.reduceAdd, Int.reduceSub, Int.reduceMul, Int.reduceNeg, Int.reduceToNat, Nat.add_sub_cancel, List.reduceReplicate, wrap64_id, List.length_cons, List.length_nil, List.all_cons, List.all_nil, Bool.and_true, Bool.true_and, Bool.or_false, Bool.false_or, List.take_succ_cons, List.take_zero, List.drop_succ_cons, List.drop_zero, decide_true, decide_false, Nat.mul_one, Nat.one_mul, Nat.zero_add, Nat.add_zero, Nat.mul_zero, Nat.zero_mul, Bool.not_true, Bool.not_false, Option.map_some, Option.map_none, Nat.le_refl, Nat.zero_lt_succ, ne_eq, not_true_eq_false, not_false_eq_true, Option.isSome_some, and_of, dec_true, dec_false, true_imp_iff, false_imp_iff, beq_self_eq_true, forall_const, getElem_map, List.length_map, dIs, dIss, hm]
    exact DFin.le .nilIs (DFin.refl ⟨by simp [cntL, hm, dIs], rfl⟩)
  | true =>
    simp (disch := omega) only [go_sem, Nat.reduceEqDiff, Nat.reduceAdd, Nat.reduceMul, Nat.reduceSub, Nat.reduceLeDiff, ↓reduceIte, reduceCtorEq, Int.toNat_natCast, Int.sub_zero, Int.zero_add, Int.add_zero, Int.reduceAdd, Int.reduceSub, Int.reduceMul, Int.reduceNeg, Int.reduceToNat, Nat.add_sub_cancel, List.reduceReplicate, wrap64_id, List.length_cons, List.length_nil, List.all_cons, List.all_nil, Bool.and_true, Bool.true_and, Bool.or_false, Bool.false_or, List.take_succ_cons, List.take_zero, List.drop_succ_cons, List.drop_zero, decide_true, decide_false, Nat.mul_one, Nat.one_mul, Nat.zero_add, Nat.add_zero, Nat.mul_zero, Nat.zero_mul, Bool.not_true, Bool.not_false, Option.map_some, Option.map_none, Nat.le_refl, Nat.zero_lt_succ, ne_eq, not_true_eq_false, not_false_eq_true, Option.isSome_some, and_of, dec_true, dec_false, true_imp_iff, false_imp_iff, beq_self_eq_true, forall_const, getElem_map, List.length_map, dIs, dIss, hm]
    intro r hr; dsimp only at hr
    simp (disch := omega) only [go_sem, Nat.reduceEqDiff, Nat.reduceAdd, Nat.reduceMul, Nat.reduceSub, Nat.reduceLeDiff, ↓reduceIte, reduceCtorEq, Int.toNat_natCast, Int.sub_zero, Int.zero_add, Int.add_zero, Int.reduceAdd, Int.reduceSub, Int.reduceMul, Int.reduceNeg, Int.reduceToNat, Nat.add_sub_cancel, List.reduceReplicate, wrap64_id, List.length_cons, List.length_nil, List.all_cons, List.all_nil, Bool.and_true, Bool.true_and, Bool.or_false, Bool.false_or, List.take_succ_cons, List.take_zero, List.drop_succ_cons, List.drop_zero, decide_true, decide_false, Nat.mul_one, Nat.one_mul, Nat.zero_add, Nat.add_zero, Nat.mul_zero, Nat.zero_mul, Bool.not_true, Bool.not_false, Option.map_some, Option.map_none, Nat.le_refl, Nat.zero_lt_succ, ne_eq, not_true_eq_false, not_false_eq_true, Option.isSome_some, and_of, dec_true, dec_false, true_imp_iff, false_imp_iff, beq_self_eq_true, forall_const, getElem_map, List.length_map, dIs, dIss]
    intro r3 h3; dsimp only at h3
    simp only [upd_eq_none] at h3
    simp (disch := omega) only [go_sem, Nat.reduceEqDiff, Nat.reduceAdd, Nat.reduceMul, Nat.reduceSub, Nat.reduceLeDiff, ↓reduceIte, reduceCtorEq, Int.toNat_natCast, Int.sub_zero, Int.zero_add, Int.add_zero, Int.reduceAdd, Int.reduceSub, Int.reduceMul, Int.reduceNeg, Int.reduceToNat, Nat.add_sub_cancel, List.reduceReplicate, wrap64_id, List.length_cons, List.length_nil, List.all_cons, List.all_nil, Bool.and_true, Bool.true_and, Bool.or_false, Bool.false_or, List.take_succ_cons, List.take_zero, List.drop_succ_cons, List.drop_zero, decide_true, decide_false, Nat.mul_one, Nat.one_mul, Nat.zero_add, Nat.add_zero, Nat.mul_zero, Nat.zero_mul, Bool.not_true, Bool.not_false, Option.map_some, Option.map_none, Nat.le_refl, Nat.zero_lt_succ, ne_eq, not_true_eq_false, not_false_eq_true, Option.isSome_some, and_of, dec_true, dec_false, true_imp_iff, false_imp_iff, beq_self_eq_true, forall_const, getElem_map, List.length_map, dIs, dIss, h3]
    rename_i H
    obtain ⟨X0, hX, D0, g1, g3⟩ : ∃ X0, upd (upd H r (some (.cells (List.replicate q.length (dI 0)) 3))) r3 (some (.cells [.oslice 1 r 0 q.length q.length] 37)) = over H X0 ∧ Disj H X0 ∧ X0 r = some (.cells (cntA q 0) 3) ∧ X0 r3 = some (.cells [.oslice 1 r 0 q.length q.length] 37) :=
      ⟨upd (upd h0 r (some (.cells (List.replicate q.length (dI 0)) 3))) r3 (some (.cells [.oslice 1 r 0 q.length q.length] 37)), by simp only [← upd_over, over_h0], ((Disj.h0 H).hi hr _).hi h3.2.2 _, by
        simp [upd, h3]
        apply List.ext_getElem?; intro j
        by_cases hj : j < q.length
        · rw [cntA_get _ _ _ hj]; simp [hj]
        · rw [List.getElem?_eq_none (by simp; omega), List.getElem?_eq_none (by rw [cntA_len]; omega)], by simp [upd]⟩
    rw [hX]
    refine (callers_spec G q _).mono ?_
    rintro _ _ ⟨rfl, rfl⟩
    simp (disch := omega) only [go_sem, Nat.reduceEqDiff, Nat.reduceAdd, Nat.reduceMul, Nat.reduceSub, Nat.reduceLeDiff, ↓reduceIte, reduceCtorEq, Int.toNat_natCast, Int.sub_zero, Int.zero_add, Int.add_zero, Int.reduceAdd, Int.reduceSub, Int.reduceMul, Int.reduceNeg, Int.reduceToNat, Nat.add_sub_cancel, List.reduceReplicate, wrap64_id, List.length_cons, List.length_nil, List.all_cons, List.all_nil, Bool.and_true, Bool.true_and, Bool.or_false, Bool.false_or, List.take_succ_cons, List.take_zero, List.drop_succ_cons, List.drop_zero, decide_true, decide_false, Nat.mul_one, Nat.one_mul, Nat.zero_add, Nat.add_zero, Nat.mul_zero, Nat.zero_mul, Bool.not_true, Bool.not_false, Option.map_some, Option.map_none, Nat.le_refl, Nat.zero_lt_succ, ne_eq, not_true_eq_false, not_false_eq_true, Option.isSome_some, and_of, dec_true, dec_false, true_imp_iff, false_imp_iff, beq_self_eq_true, forall_const, getElem_map, List.length_map, dIs, dIss]
    refine dwp_range 84 _ (cl 0 q) (callers1_iter G q hq hl') rfl (by kernel_rfl) (cl_len 0 q) H X0 rfl D0
      (fun k X => X r = some (.cells (cntA q k) 3) ∧ X r3 = some (.cells [.oslice 1 r 0 q.length q.length] 37))
      (fun c X => False) ⟨g1, g3⟩ ?_ ?_ ?_
    · rintro k x Hi X d1 hx ⟨g1, g3⟩
      obtain ⟨⟨e, u⟩, hp, rfl⟩ := cl_get hx
      obtain ⟨he, _, hu⟩ := clp_mem (List.mem_of_getElem? hp)
      simp only [Nat.sub_zero] at he hu
      have hcb : ((clp 0 q).take k).countP (fun p => p.1 = e) ≤ 1099511627776 := by
        refine Nat.le_trans List.countP_le_length ?_
        rw [List.length_take]
        have : (clp 0 q).length = q.flatten.length := by rw [← clp_snd 0, List.length_map]
        omega
      have o1 := over_x (Hi := Hi) g1
      have o3 := over_x (Hi := Hi) g3
      simp (disch := omega) only [go_sem, Nat.reduceEqDiff, Nat.reduceAdd, Nat.reduceMul, Nat.reduceSub, Nat.reduceLeDiff, ↓reduceIte, reduceCtorEq, Int.toNat_natCast, Int.sub_zero, Int.zero_add, Int.add_zero, Int.reduceAdd, Int.reduceSub, Int.reduceMul, Int.reduceNeg, Int.reduceToNat, Nat.add_sub_cancel, List.reduceReplicate, wrap64_id, List.length_cons, List.length_nil, List.all_cons, List.all_nil, Bool.and_true, Bool.true_and, Bool.or_false, Bool.false_or, List.take_succ_cons, List.take_zero, List.drop_succ_cons, List.drop_zero, decide_true, decide_false, Nat.mul_one, Nat.one_mul, Nat.zero_add, Nat.add_zero, Nat.mul_zero, Nat.zero_mul, Bool.not_true, Bool.not_false, Option.map_some, Option.map_none, Nat.le_refl, Nat.zero_lt_succ, ne_eq, not_true_eq_false, not_false_eq_true, Option.isSome_some, and_of, dec_true, dec_false, true_imp_iff, false_imp_iff, beq_self_eq_true, forall_const, getElem_map, List.length_map, dIs, dIss, h3, o1, o3, cntA_get _ _ _ he, cntA_len]
      rw [show splice (cntA q k) e _ = _ from cntA_step q k (e, u) hp he]
      exact ⟨_, rfl, d1.st g1 _, by simp [upd], by simp [upd, h3, g3]⟩
    · rintro X d1 ⟨g1, g3⟩
      have o1 := over_x (Hi := H) g1
      have o3 := over_x (Hi := H) g3
      simp (disch := omega) only [go_sem, Nat.reduceEqDiff, Nat.reduceAdd, Nat.reduceMul, Nat.reduceSub, Nat.reduceLeDiff, ↓reduceIte, reduceCtorEq, Int.toNat_natCast, Int.sub_zero, Int.zero_add, Int.add_zero, Int.reduceAdd, Int.reduceSub, Int.reduceMul, Int.reduceNeg, Int.reduceToNat, Nat.add_sub_cancel, List.reduceReplicate, wrap64_id, List.length_cons, List.length_nil, List.all_cons, List.all_nil, Bool.and_true, Bool.true_and, Bool.or_false, Bool.false_or, List.take_succ_cons, List.take_zero, List.drop_succ_cons, List.drop_zero, decide_true, decide_false, Nat.mul_one, Nat.one_mul, Nat.zero_add, Nat.add_zero, Nat.mul_zero, Nat.zero_mul, Bool.not_true, Bool.not_false, Option.map_some, Option.map_none, Nat.le_refl, Nat.zero_lt_succ, ne_eq, not_true_eq_false, not_false_eq_true, Option.isSome_some, and_of, dec_true, dec_false, true_imp_iff, false_imp_iff, beq_self_eq_true, forall_const, getElem_map, List.length_map, dIs, dIss, o1, o3]
      rw [show (cl 0 q).length = (clp 0 q).length by simp [cl], cntA_all] at g1
      have o1 := over_x (Hi := H) g1
      refine DFin.fz r o1 ?_
      rw [upd_over_none (d1 r (by simp [g1]))]
      refine DFin.over (fun b hb => d1 b (fun e => hb (by simp only [upd]; split; rfl; exact e))) ⟨?_, rfl⟩
      simp only [cntL, hm, if_true, dIs, fz, if_pos, List.drop_zero, List.length_map]
      rw [List.take_of_length_le (by simp)]
    · rintro c X _ h
      exact h.elim

/-- Entry e has a caller. -/
def hasC (n : List Int) (e : Int) : Bool := decide (0 ≤ e ∧ e < n.length ∧ 0 < n.getD e.toNat 0)

theorem choose1_spec (G : Nat → DVal) (n : List Int) (e : Int) (r : Nat) (H : DHeap) (hr : H r = some (.cells [dIs n] 37)) : DCalls Try.prog G 70 [dI e, .optr r 0] H (DRet (.bool (hasC n e)) H) := by
  refine dcalls_intro Try.func70 Try.call70 rfl (by kernel_rfl) ?_
  by_cases c1 : 0 ≤ e
  · by_cases c2 : e < n.length
    · obtain ⟨i, rfl⟩ : ∃ i : Nat, e = i := ⟨e.toNat, by omega⟩
      have hi : i < n.length := by omega
      simp (disch := omega) only [go_sem, Nat.reduceEqDiff, Nat.reduceAdd, Nat.reduceMul, Nat.reduceSub, Nat.reduceLeDiff, ↓reduceIte, reduceCtorEq, Int.toNat_natCast, Int.sub_zero, Int.zero_add, Int.add_zero, Int.reduceAdd, Int.reduceSub, Int.reduceMul, Int.reduceNeg, Int.reduceToNat, Nat.add_sub_cancel, List.reduceReplicate, wrap64_id, List.length_cons, List.length_nil, List.all_cons, List.all_nil, Bool.and_true, Bool.true_and, Bool.or_false, Bool.false_or, List.take_succ_cons, List.take_zero, List.drop_succ_cons, List.drop_zero, decide_true, decide_false, Nat.mul_one, Nat.one_mul, Nat.zero_add, Nat.add_zero, Nat.mul_zero, Nat.zero_mul, Bool.not_true, Bool.not_false, Option.map_some, Option.map_none, Nat.le_refl, Nat.zero_lt_succ, ne_eq, not_true_eq_false, not_false_eq_true, Option.isSome_some, and_of, dec_true, dec_false, true_imp_iff, false_imp_iff, beq_self_eq_true, forall_const, getElem_map, List.length_map, dIs, dIss, hr]
      refine DFin.refl ⟨?_, rfl⟩
      simp [hasC, hi]
    · simp (disch := omega) only [go_sem, Nat.reduceEqDiff, Nat.reduceAdd, Nat.reduceMul, Nat.reduceSub, Nat.reduceLeDiff, ↓reduceIte, reduceCtorEq, Int.toNat_natCast, Int.sub_zero, Int.zero_add, Int.add_zero, Int.reduceAdd, Int.reduceSub, Int.reduceMul, Int.reduceNeg, Int.reduceToNat, Nat.add_sub_cancel, List.reduceReplicate, wrap64_id, List.length_cons, List.length_nil, List.all_cons, List.all_nil, Bool.and_true, Bool.true_and, Bool.or_false, Bool.false_or, List.take_succ_cons, List.take_zero, List.drop_succ_cons, List.drop_zero, decide_true, decide_false, Nat.mul_one, Nat.one_mul, Nat.zero_add, Nat.add_zero, Nat.mul_zero, Nat.zero_mul, Bool.not_true, Bool.not_false, Option.map_some, Option.map_none, Nat.le_refl, Nat.zero_lt_succ, ne_eq, not_true_eq_false, not_false_eq_true, Option.isSome_some, and_of, dec_true, dec_false, true_imp_iff, false_imp_iff, beq_self_eq_true, forall_const, getElem_map, List.length_map, dIs, dIss, hr]
      refine DFin.refl ⟨?_, rfl⟩
      simp [hasC, c2]
  · simp (disch := omega) only [go_sem, Nat.reduceEqDiff, Nat.reduceAdd, Nat.reduceMul, Nat.reduceSub, Nat.reduceLeDiff, ↓reduceIte, reduceCtorEq, Int.toNat_natCast, Int.sub_zero, Int.zero_add, Int.add_zero, Int.reduceAdd, Int.reduceSub, Int.reduceMul, Int.reduceNeg, Int.reduceToNat, Nat.add_sub_cancel, List.reduceReplicate, wrap64_id, List.length_cons, List.length_nil, List.all_cons, List.all_nil, Bool.and_true, Bool.true_and, Bool.or_false, Bool.false_or, List.take_succ_cons, List.take_zero, List.drop_succ_cons, List.drop_zero, decide_true, decide_false, Nat.mul_one, Nat.one_mul, Nat.zero_add, Nat.add_zero, Nat.mul_zero, Nat.zero_mul, Bool.not_true, Bool.not_false, Option.map_some, Option.map_none, Nat.le_refl, Nat.zero_lt_succ, ne_eq, not_true_eq_false, not_false_eq_true, Option.isSome_some, and_of, dec_true, dec_false, true_imp_iff, false_imp_iff, beq_self_eq_true, forall_const, getElem_map, List.length_map, dIs, dIss, hr]
    refine DFin.refl ⟨?_, rfl⟩
    simp [hasC, c1]

/-- The first index of l whose entry has a caller. -/
def chooseI (q : List (List Int)) (l : List Int) : Option Nat := l.findIdx? (hasC (cntL q))
def chooseD (q : List (List Int)) (l : List Int) : DVal := match chooseI q l with | some i => .tuple [dI i, .bool true] | none => .tuple [dI 0, .bool false]

theorem choose_spec (G : Nat → DVal) (q : List (List Int)) (l : List Int) (H : DHeap) (hq : q.length ≤ 1099511627776) (hl : ∀ l ∈ q, l.length ≤ 1000000000) (hf : q.flatten.length ≤ 1099511627776) (hll : l.length ≤ 1099511627776) : DCalls Try.prog G 23 [dIss q, dIs l] H (DRet (chooseD q l) H) := by
  refine dcalls_intro Try.func23 Try.call23 rfl (by kernel_rfl) ?_
  simp (disch := omega) only [go_sem, Nat.reduceEqDiff, Nat.reduceAdd, Nat.reduceMul, Nat.reduceSub, Nat.reduceLeDiff, ↓reduceIte, reduceCtorEq, Int.toNat_natCast, Int.sub_zero, Int.zero_add, Int.add_zero, Int.reduceAdd, Int.reduceSub, Int.reduceMul, Int.reduceNeg, Int.reduceToNat, Nat.add_sub_cancel, List.reduceReplicate, wrap64_id, List.length_cons, List.length_nil, List.all_cons, List.all_nil, Bool.and_true, Bool.true_and, Bool.or_false, Bool.false_or, List.take_succ_cons, List.take_zero, List.drop_succ_cons, List.drop_zero, decide_true, decide_false, Nat.mul_one, Nat.one_mul, Nat.zero_add, Nat.add_zero, Nat.mul_zero, Nat.zero_mul, Bool.not_true, Bool.not_false, Option.map_some, Option.map_none, Nat.le_refl, Nat.zero_lt_succ, ne_eq, not_true_eq_false, not_false_eq_true, Option.isSome_some, and_of, dec_true, dec_false, true_imp_iff, false_imp_iff, beq_self_eq_true, forall_const, getElem_map, List.length_map, dIs, dIss]
  refine (counts_spec G q _ hq hl hf).mono ?_
  rintro _ _ ⟨rfl, rfl⟩
  simp (disch := omega) only [go_sem, Nat.reduceEqDiff, Nat.reduceAdd, Nat.reduceMul, Nat.reduceSub, Nat.reduceLeDiff, ↓reduceIte, reduceCtorEq, Int.toNat_natCast, Int.sub_zero, Int.zero_add, Int.add_zero, Int.reduceAdd, Int.reduceSub, Int.reduceMul, Int.reduceNeg, Int.reduceToNat, Nat.add_sub_cancel, List.reduceReplicate, wrap64_id, List.length_cons, List.length_nil, List.all_cons, List.all_nil, Bool.and_true, Bool.true_and, Bool.or_false, Bool.false_or, List.take_succ_cons, List.take_zero, List.drop_succ_cons, List.drop_zero, decide_true, decide_false, Nat.mul_one, Nat.one_mul, Nat.zero_add, Nat.add_zero, Nat.mul_zero, Nat.zero_mul, Bool.not_true, Bool.not_false, Option.map_some, Option.map_none, Nat.le_refl, Nat.zero_lt_succ, ne_eq, not_true_eq_false, not_false_eq_true, Option.isSome_some, and_of, dec_true, dec_false, true_imp_iff, false_imp_iff, beq_self_eq_true, forall_const, getElem_map, List.length_map, dIs, dIss]
  intro r hr; dsimp only at hr
  simp (disch := omega) only [go_sem, Nat.reduceEqDiff, Nat.reduceAdd, Nat.reduceMul, Nat.reduceSub, Nat.reduceLeDiff, ↓reduceIte, reduceCtorEq, Int.toNat_natCast, Int.sub_zero, Int.zero_add, Int.add_zero, Int.reduceAdd, Int.reduceSub, Int.reduceMul, Int.reduceNeg, Int.reduceToNat, Nat.add_sub_cancel, List.reduceReplicate, wrap64_id, List.length_cons, List.length_nil, List.all_cons, List.all_nil, Bool.and_true, Bool.true_and, Bool.or_false, Bool.false_or, List.take_succ_cons, List.take_zero, List.drop_succ_cons, List.drop_zero, decide_true, decide_false, Nat.mul_one, Nat.one_mul, Nat.zero_add, Nat.add_zero, Nat.mul_zero, Nat.zero_mul, Bool.not_true, Bool.not_false, Option.map_some, Option.map_none, Nat.le_refl, Nat.zero_lt_succ, ne_eq, not_true_eq_false, not_false_eq_true, Option.isSome_some, and_of, dec_true, dec_false, true_imp_iff, false_imp_iff, beq_self_eq_true, forall_const, getElem_map, List.length_map, dIs, dIss]
  refine (indexFunc_spec G l 70 [.optr r 0] (hasC (cntL q)) _ hll (fun x hx => choose1_spec G (cntL q) x r _ (upd_same _ _ _))).mono ?_
  rintro _ _ ⟨rfl, rfl⟩
  cases hc : l.findIdx? (hasC (cntL q)) with
  | some i =>
    have hi : idxF l (hasC (cntL q)) = i := by rw [idxF, hc]
    simp (disch := omega) only [go_sem, Nat.reduceEqDiff, Nat.reduceAdd, Nat.reduceMul, Nat.reduceSub, Nat.reduceLeDiff, ↓reduceIte, reduceCtorEq, Int.toNat_natCast, Int.sub_zero, Int.zero_add, Int.add_zero, Int.reduceAdd, Int.reduceSub, Int.reduceMul, Int.reduceNeg, Int.reduceToNat, Nat.add_sub_cancel, List.reduceReplicate, wrap64_id, List.length_cons, List.length_nil, List.all_cons, List.all_nil, Bool.and_true, Bool.true_and, Bool.or_false, Bool.false_or, List.take_succ_cons, List.take_zero, List.drop_succ_cons, List.drop_zero, decide_true, decide_false, Nat.mul_one, Nat.one_mul, Nat.zero_add, Nat.add_zero, Nat.mul_zero, Nat.zero_mul, Bool.not_true, Bool.not_false, Option.map_some, Option.map_none, Nat.le_refl, Nat.zero_lt_succ, ne_eq, not_true_eq_false, not_false_eq_true, Option.isSome_some, and_of, dec_true, dec_false, true_imp_iff, false_imp_iff, beq_self_eq_true, forall_const, getElem_map, List.length_map, dIs, dIss, hi]
    refine DFin.dropA r hr (DFin.refl ⟨?_, rfl⟩)
    rw [chooseD, chooseI, hc, if_neg (by omega)]
  | none =>
    have hi : idxF l (hasC (cntL q)) = -1 := by rw [idxF, hc]
    simp (disch := omega) only [go_sem, Nat.reduceEqDiff, Nat.reduceAdd, Nat.reduceMul, Nat.reduceSub, Nat.reduceLeDiff, ↓reduceIte, reduceCtorEq, Int.toNat_natCast, Int.sub_zero, Int.zero_add, Int.add_zero, Int.reduceAdd, Int.reduceSub, Int.reduceMul, Int.reduceNeg, Int.reduceToNat, Nat.add_sub_cancel, List.reduceReplicate, wrap64_id, List.length_cons, List.length_nil, List.all_cons, List.all_nil, Bool.and_true, Bool.true_and, Bool.or_false, Bool.false_or, List.take_succ_cons, List.take_zero, List.drop_succ_cons, List.drop_zero, decide_true, decide_false, Nat.mul_one, Nat.one_mul, Nat.zero_add, Nat.add_zero, Nat.mul_zero, Nat.zero_mul, Bool.not_true, Bool.not_false, Option.map_some, Option.map_none, Nat.le_refl, Nat.zero_lt_succ, ne_eq, not_true_eq_false, not_false_eq_true, Option.isSome_some, and_of, dec_true, dec_false, true_imp_iff, false_imp_iff, beq_self_eq_true, forall_const, getElem_map, List.length_map, dIs, dIss, hi]
    refine DFin.dropA r hr (DFin.refl ⟨?_, rfl⟩)
    rw [chooseD, chooseI, hc]; rfl
end Go.Dl
