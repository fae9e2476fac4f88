/- The laws EntryFinds, EntryBack: what the calls compute. -/
import Derived.Test.YtimnmempnhjbfaaEd
set_option linter.unusedSimpArgs false
set_option linter.unusedVariables false
namespace Go.Dl
open Go Go.Proofs
set_option maxRecDepth 10000

theorem findD_eq (q : List (List Int)) (t : Int) : ∃ a b c, findD q t = .tuple [dI a, dI b, .bool c] := by
  unfold findD
  split
  · split
    · exact ⟨_, _, _, rfl⟩
    · exact ⟨_, _, _, rfl⟩
  · exact ⟨_, _, _, rfl⟩
theorem openD_eq (q : List (List Int)) (o : List Bool) : ∃ a b c, openD q o = .tuple [dI a, dI b, .bool c] := by
  unfold openD
  split
  · split
    · exact ⟨_, _, _, rfl⟩
    · exact ⟨_, _, _, rfl⟩
  · exact ⟨_, _, _, rfl⟩
theorem chooseD_eq (q : List (List Int)) (l : List Int) : ∃ a c, chooseD q l = .tuple [dI a, .bool c] := by
  unfold chooseD
  split
  · exact ⟨_, _, rfl⟩
  · exact ⟨_, _, rfl⟩

theorem cntL_len (q : List (List Int)) (h : q.length ≤ 1099511627776) : (cntL q).length ≤ 1099511627776 := by
  unfold cntL; split <;> simp; omega

theorem entryFinds_spec (G : Nat → DVal) (q : List (List Int)) (n : Int) (l : List Int) (o : List Bool) (H : DHeap) (hq : q.length ≤ 1099511627776) (hb : q.flatten.length ≤ 1099511627776) (hl : ∀ l ∈ q, l.length ≤ 1000000000) (hll : l.length ≤ 1099511627776) (ho : o.length ≤ 1099511627776) :
    DCalls Try.prog G 4 [dIss q, dI n, dIs l, dBs o] H (DRet (.bool true) H) := by
  have hl' : ∀ l ∈ q, l.length ≤ 1099511627776 := fun l h => Nat.le_trans (hl l h) (by omega)
  obtain ⟨f1, f2, f3, hf⟩ := findD_eq q n
  obtain ⟨o1, o2, o3, hop⟩ := openD_eq q o
  obtain ⟨c1, c3, hch⟩ := chooseD_eq q l
  refine dcalls_intro Try.func4 Try.call4 rfl (by kernel_rfl) ?_
  simp (disch := omega) only [go_sem, Nat.reduceEqDiff, Nat.reduceAdd, Nat.reduceMul, Nat.reduceSub, Nat.reduceLeDiff, ↓reduceIte, reduceCtorEq, Int.toNat_natCast, Int.sub_zero, Int.zero_add, Int.add_zero, Int.reduceAdd, Int.reduceSub, Int.reduceMul, Int.reduceNeg, Int.reduceToNat, Nat.add_sub_cancel, List.reduceReplicate, wrap64_id, List.length_cons, List.length_nil, List.all_cons, List.all_nil, Bool.and_true, Bool.true_and, Bool.or_false, Bool.false_or, List.take_succ_cons, List.take_zero, List.drop_succ_cons, List.drop_zero, decide_true, decide_false, Nat.mul_one, Nat.one_mul, Nat.zero_add, Nat.add_zero, Nat.mul_zero, Nat.zero_mul, Bool.not_true, Bool.not_false, Option.map_some, Option.map_none, Nat.le_refl, Nat.zero_lt_succ, ne_eq, not_true_eq_false, not_false_eq_true, Option.isSome_some, and_of, dec_true, dec_false, true_imp_iff, false_imp_iff, beq_self_eq_true, forall_const, getElem_map, List.length_map, dIs, dIss, dBs]
  refine (new_spec G n _).mono ?_
  rintro _ H ⟨rfl, rfl⟩
  obtain ⟨a, e, b, hn, hab, hbl⟩ : ∃ a e b, newD n = .tuple [a, dI e] ∧ DLe a (dIss b) ∧ (b.length ≤ 8 ∧ ∀ x ∈ b, x = []) := by
    unfold newD
    split
    · refine ⟨_, _, _, rfl, .refl _, by simp; omega, by simp⟩
    · exact ⟨_, _, _, rfl, .nilIss, by simp, by simp⟩
  rw [hn]
  simp (disch := omega) only [go_sem, Nat.reduceEqDiff, Nat.reduceAdd, Nat.reduceMul, Nat.reduceSub, Nat.reduceLeDiff, ↓reduceIte, reduceCtorEq, Int.toNat_natCast, Int.sub_zero, Int.zero_add, Int.add_zero, Int.reduceAdd, Int.reduceSub, Int.reduceMul, Int.reduceNeg, Int.reduceToNat, Nat.add_sub_cancel, List.reduceReplicate, wrap64_id, List.length_cons, List.length_nil, List.all_cons, List.all_nil, Bool.and_true, Bool.true_and, Bool.or_false, Bool.false_or, List.take_succ_cons, List.take_zero, List.drop_succ_cons, List.drop_zero, decide_true, decide_false, Nat.mul_one, Nat.one_mul, Nat.zero_add, Nat.add_zero, Nat.mul_zero, Nat.zero_mul, Bool.not_true, Bool.not_false, Option.map_some, Option.map_none, Nat.le_refl, Nat.zero_lt_succ, ne_eq, not_true_eq_false, not_false_eq_true, Option.isSome_some, and_of, dec_true, dec_false, true_imp_iff, false_imp_iff, beq_self_eq_true, forall_const, getElem_map, List.length_map, dIs, dIss]
  refine (rnew_spec G n _).mono ?_
  rintro _ H ⟨rfl, rfl⟩
  rw [hn]
  simp (disch := omega) only [go_sem, Nat.reduceEqDiff, Nat.reduceAdd, Nat.reduceMul, Nat.reduceSub, Nat.reduceLeDiff, ↓reduceIte, reduceCtorEq, Int.toNat_natCast, Int.sub_zero, Int.zero_add, Int.add_zero, Int.reduceAdd, Int.reduceSub, Int.reduceMul, Int.reduceNeg, Int.reduceToNat, Nat.add_sub_cancel, List.reduceReplicate, wrap64_id, List.length_cons, List.length_nil, List.all_cons, List.all_nil, Bool.and_true, Bool.true_and, Bool.or_false, Bool.false_or, List.take_succ_cons, List.take_zero, List.drop_succ_cons, List.drop_zero, decide_true, decide_false, Nat.mul_one, Nat.one_mul, Nat.zero_add, Nat.add_zero, Nat.mul_zero, Nat.zero_mul, Bool.not_true, Bool.not_false, Option.map_some, Option.map_none, Nat.le_refl, Nat.zero_lt_succ, ne_eq, not_true_eq_false, not_false_eq_true, Option.isSome_some, and_of, dec_true, dec_false, true_imp_iff, false_imp_iff, beq_self_eq_true, forall_const, getElem_map, List.length_map, dIs, dIss]
  refine (find_spec G q n _ hq hl').mono ?_
  rintro _ H ⟨rfl, rfl⟩
  rw [hf]
  simp (disch := omega) only [go_sem, Nat.reduceEqDiff, Nat.reduceAdd, Nat.reduceMul, Nat.reduceSub, Nat.reduceLeDiff, ↓reduceIte, reduceCtorEq, Int.toNat_natCast, Int.sub_zero, Int.zero_add, Int.add_zero, Int.reduceAdd, Int.reduceSub, Int.reduceMul, Int.reduceNeg, Int.reduceToNat, Nat.add_sub_cancel, List.reduceReplicate, wrap64_id, List.length_cons, List.length_nil, List.all_cons, List.all_nil, Bool.and_true, Bool.true_and, Bool.or_false, Bool.false_or, List.take_succ_cons, List.take_zero, List.drop_succ_cons, List.drop_zero, decide_true, decide_false, Nat.mul_one, Nat.one_mul, Nat.zero_add, Nat.add_zero, Nat.mul_zero, Nat.zero_mul, Bool.not_true, Bool.not_false, Option.map_some, Option.map_none, Nat.le_refl, Nat.zero_lt_succ, ne_eq, not_true_eq_false, not_false_eq_true, Option.isSome_some, and_of, dec_true, dec_false, true_imp_iff, false_imp_iff, beq_self_eq_true, forall_const, getElem_map, List.length_map, dIs, dIss]
  refine (rfind_spec G q n _ hq hb hl').mono ?_
  rintro _ H ⟨rfl, rfl⟩
  rw [hf]
  simp (disch := omega) only [go_sem, Nat.reduceEqDiff, Nat.reduceAdd, Nat.reduceMul, Nat.reduceSub, Nat.reduceLeDiff, ↓reduceIte, reduceCtorEq, Int.toNat_natCast, Int.sub_zero, Int.zero_add, Int.add_zero, Int.reduceAdd, Int.reduceSub, Int.reduceMul, Int.reduceNeg, Int.reduceToNat, Nat.add_sub_cancel, List.reduceReplicate, wrap64_id, List.length_cons, List.length_nil, List.all_cons, List.all_nil, Bool.and_true, Bool.true_and, Bool.or_false, Bool.false_or, List.take_succ_cons, List.take_zero, List.drop_succ_cons, List.drop_zero, decide_true, decide_false, Nat.mul_one, Nat.one_mul, Nat.zero_add, Nat.add_zero, Nat.mul_zero, Nat.zero_mul, Bool.not_true, Bool.not_false, Option.map_some, Option.map_none, Nat.le_refl, Nat.zero_lt_succ, ne_eq, not_true_eq_false, not_false_eq_true, Option.isSome_some, and_of, dec_true, dec_false, true_imp_iff, false_imp_iff, beq_self_eq_true, forall_const, getElem_map, List.length_map, dIs, dIss]
  refine (choose_spec G q l _ hq hl hb hll).mono ?_
  rintro _ H ⟨rfl, rfl⟩
  rw [hch]
  simp (disch := omega) only [go_sem, Nat.reduceEqDiff, Nat.reduceAdd, Nat.reduceMul, Nat.reduceSub, Nat.reduceLeDiff, ↓reduceIte, reduceCtorEq, Int.toNat_natCast, Int.sub_zero, Int.zero_add, Int.add_zero, Int.reduceAdd, Int.reduceSub, Int.reduceMul, Int.reduceNeg, Int.reduceToNat, Nat.add_sub_cancel, List.reduceReplicate, wrap64_id, List.length_cons, List.length_nil, List.all_cons, List.all_nil, Bool.and_true, Bool.true_and, Bool.or_false, Bool.false_or, List.take_succ_cons, List.take_zero, List.drop_succ_cons, List.drop_zero, decide_true, decide_false, Nat.mul_one, Nat.one_mul, Nat.zero_add, Nat.add_zero, Nat.mul_zero, Nat.zero_mul, Bool.not_true, Bool.not_false, Option.map_some, Option.map_none, Nat.le_refl, Nat.zero_lt_succ, ne_eq, not_true_eq_false, not_false_eq_true, Option.isSome_some, and_of, dec_true, dec_false, true_imp_iff, false_imp_iff, beq_self_eq_true, forall_const, getElem_map, List.length_map, dIs, dIss]
  refine (rchoose_spec G q l _ hq hb hl hll).mono ?_
  rintro _ H ⟨rfl, rfl⟩
  rw [hch]
  simp (disch := omega) only [go_sem, Nat.reduceEqDiff, Nat.reduceAdd, Nat.reduceMul, Nat.reduceSub, Nat.reduceLeDiff, ↓reduceIte, reduceCtorEq, Int.toNat_natCast, Int.sub_zero, Int.zero_add, Int.add_zero, Int.reduceAdd, Int.reduceSub, Int.reduceMul, Int.reduceNeg, Int.reduceToNat, Nat.add_sub_cancel, List.reduceReplicate, wrap64_id, List.length_cons, List.length_nil, List.all_cons, List.all_nil, Bool.and_true, Bool.true_and, Bool.or_false, Bool.false_or, List.take_succ_cons, List.take_zero, List.drop_succ_cons, List.drop_zero, decide_true, decide_false, Nat.mul_one, Nat.one_mul, Nat.zero_add, Nat.add_zero, Nat.mul_zero, Nat.zero_mul, Bool.not_true, Bool.not_false, Option.map_some, Option.map_none, Nat.le_refl, Nat.zero_lt_succ, ne_eq, not_true_eq_false, not_false_eq_true, Option.isSome_some, and_of, dec_true, dec_false, true_imp_iff, false_imp_iff, beq_self_eq_true, forall_const, getElem_map, List.length_map, dIs, dIss]
  refine (open_spec G q o _ hq hl' ho).mono ?_
  rintro _ H ⟨rfl, rfl⟩
  rw [hop]
  simp (disch := omega) only [go_sem, Nat.reduceEqDiff, Nat.reduceAdd, Nat.reduceMul, Nat.reduceSub, Nat.reduceLeDiff, ↓reduceIte, reduceCtorEq, Int.toNat_natCast, Int.sub_zero, Int.zero_add, Int.add_zero, Int.reduceAdd, Int.reduceSub, Int.reduceMul, Int.reduceNeg, Int.reduceToNat, Nat.add_sub_cancel, List.reduceReplicate, wrap64_id, List.length_cons, List.length_nil, List.all_cons, List.all_nil, Bool.and_true, Bool.true_and, Bool.or_false, Bool.false_or, List.take_succ_cons, List.take_zero, List.drop_succ_cons, List.drop_zero, decide_true, decide_false, Nat.mul_one, Nat.one_mul, Nat.zero_add, Nat.add_zero, Nat.mul_zero, Nat.zero_mul, Bool.not_true, Bool.not_false, Option.map_some, Option.map_none, Nat.le_refl, Nat.zero_lt_succ, ne_eq, not_true_eq_false, not_false_eq_true, Option.isSome_some, and_of, dec_true, dec_false, true_imp_iff, false_imp_iff, beq_self_eq_true, forall_const, getElem_map, List.length_map, dIs, dIss]
  refine (ropen_spec G q o _ hq hb hl ho).mono ?_
  rintro _ H ⟨rfl, rfl⟩
  rw [hop]
  simp (disch := omega) only [go_sem, Nat.reduceEqDiff, Nat.reduceAdd, Nat.reduceMul, Nat.reduceSub, Nat.reduceLeDiff, ↓reduceIte, reduceCtorEq, Int.toNat_natCast, Int.sub_zero, Int.zero_add, Int.add_zero, Int.reduceAdd, Int.reduceSub, Int.reduceMul, Int.reduceNeg, Int.reduceToNat, Nat.add_sub_cancel, List.reduceReplicate, wrap64_id, List.length_cons, List.length_nil, List.all_cons, List.all_nil, Bool.and_true, Bool.true_and, Bool.or_false, Bool.false_or, List.take_succ_cons, List.take_zero, List.drop_succ_cons, List.drop_zero, decide_true, decide_false, Nat.mul_one, Nat.one_mul, Nat.zero_add, Nat.add_zero, Nat.mul_zero, Nat.zero_mul, Bool.not_true, Bool.not_false, Option.map_some, Option.map_none, Nat.le_refl, Nat.zero_lt_succ, ne_eq, not_true_eq_false, not_false_eq_true, Option.isSome_some, and_of, dec_true, dec_false, true_imp_iff, false_imp_iff, beq_self_eq_true, forall_const, getElem_map, List.length_map, dIs, dIss]
  refine (may_spec G q _ hq hl').mono ?_
  rintro _ H ⟨rfl, rfl⟩
  simp (disch := omega) only [go_sem, Nat.reduceEqDiff, Nat.reduceAdd, Nat.reduceMul, Nat.reduceSub, Nat.reduceLeDiff, ↓reduceIte, reduceCtorEq, Int.toNat_natCast, Int.sub_zero, Int.zero_add, Int.add_zero, Int.reduceAdd, Int.reduceSub, Int.reduceMul, Int.reduceNeg, Int.reduceToNat, Nat.add_sub_cancel, List.reduceReplicate, wrap64_id, List.length_cons, List.length_nil, List.all_cons, List.all_nil, Bool.and_true, Bool.true_and, Bool.or_false, Bool.false_or, List.take_succ_cons, List.take_zero, List.drop_succ_cons, List.drop_zero, decide_true, decide_false, Nat.mul_one, Nat.one_mul, Nat.zero_add, Nat.add_zero, Nat.mul_zero, Nat.zero_mul, Bool.not_true, Bool.not_false, Option.map_some, Option.map_none, Nat.le_refl, Nat.zero_lt_succ, ne_eq, not_true_eq_false, not_false_eq_true, Option.isSome_some, and_of, dec_true, dec_false, true_imp_iff, false_imp_iff, beq_self_eq_true, forall_const, getElem_map, List.length_map, dIs, dIss]
  refine (rmay_spec G q _ hq hb hl').mono ?_
  rintro _ H ⟨rfl, rfl⟩
  simp (disch := omega) only [go_sem, Nat.reduceEqDiff, Nat.reduceAdd, Nat.reduceMul, Nat.reduceSub, Nat.reduceLeDiff, ↓reduceIte, reduceCtorEq, Int.toNat_natCast, Int.sub_zero, Int.zero_add, Int.add_zero, Int.reduceAdd, Int.reduceSub, Int.reduceMul, Int.reduceNeg, Int.reduceToNat, Nat.add_sub_cancel, List.reduceReplicate, wrap64_id, List.length_cons, List.length_nil, List.all_cons, List.all_nil, Bool.and_true, Bool.true_and, Bool.or_false, Bool.false_or, List.take_succ_cons, List.take_zero, List.drop_succ_cons, List.drop_zero, decide_true, decide_false, Nat.mul_one, Nat.one_mul, Nat.zero_add, Nat.add_zero, Nat.mul_zero, Nat.zero_mul, Bool.not_true, Bool.not_false, Option.map_some, Option.map_none, Nat.le_refl, Nat.zero_lt_succ, ne_eq, not_true_eq_false, not_false_eq_true, Option.isSome_some, and_of, dec_true, dec_false, true_imp_iff, false_imp_iff, beq_self_eq_true, forall_const, getElem_map, List.length_map, dIs, dIss]
  refine DCalls.leArgs (.cons hab (.cons hab .nil)) ?_
  have hb' : ∀ x ∈ b, x.length ≤ 1099511627776 := fun x hx => by rw [hbl.2 x hx]; simp
  refine (same_spec G b b _ (by omega) (by omega) hb' hb').mono ?_
  rintro _ H ⟨rfl, rfl⟩
  simp (disch := omega) only [go_sem, Nat.reduceEqDiff, Nat.reduceAdd, Nat.reduceMul, Nat.reduceSub, Nat.reduceLeDiff, ↓reduceIte, reduceCtorEq, Int.toNat_natCast, Int.sub_zero, Int.zero_add, Int.add_zero, Int.reduceAdd, Int.reduceSub, Int.reduceMul, Int.reduceNeg, Int.reduceToNat, Nat.add_sub_cancel, List.reduceReplicate, wrap64_id, List.length_cons, List.length_nil, List.all_cons, List.all_nil, Bool.and_true, Bool.true_and, Bool.or_false, Bool.false_or, List.take_succ_cons, List.take_zero, List.drop_succ_cons, List.drop_zero, decide_true, decide_false, Nat.mul_one, Nat.one_mul, Nat.zero_add, Nat.add_zero, Nat.mul_zero, Nat.zero_mul, Bool.not_true, Bool.not_false, Option.map_some, Option.map_none, Nat.le_refl, Nat.zero_lt_succ, ne_eq, not_true_eq_false, not_false_eq_true, Option.isSome_some, and_of, dec_true, dec_false, true_imp_iff, false_imp_iff, beq_self_eq_true, forall_const, getElem_map, List.length_map, dIs, dIss]
  refine (counts_spec G q _ hq hl hb).mono ?_
  rintro _ H ⟨rfl, rfl⟩
  simp (disch := omega) only [go_sem, Nat.reduceEqDiff, Nat.reduceAdd, Nat.reduceMul, Nat.reduceSub, Nat.reduceLeDiff, ↓reduceIte, reduceCtorEq, Int.toNat_natCast, Int.sub_zero, Int.zero_add, Int.add_zero, Int.reduceAdd, Int.reduceSub, Int.reduceMul, Int.reduceNeg, Int.reduceToNat, Nat.add_sub_cancel, List.reduceReplicate, wrap64_id, List.length_cons, List.length_nil, List.all_cons, List.all_nil, Bool.and_true, Bool.true_and, Bool.or_false, Bool.false_or, List.take_succ_cons, List.take_zero, List.drop_succ_cons, List.drop_zero, decide_true, decide_false, Nat.mul_one, Nat.one_mul, Nat.zero_add, Nat.add_zero, Nat.mul_zero, Nat.zero_mul, Bool.not_true, Bool.not_false, Option.map_some, Option.map_none, Nat.le_refl, Nat.zero_lt_succ, ne_eq, not_true_eq_false, not_false_eq_true, Option.isSome_some, and_of, dec_true, dec_false, true_imp_iff, false_imp_iff, beq_self_eq_true, forall_const, getElem_map, List.length_map, dIs, dIss]
  refine (rcounts_spec G q _ hq hb hl').mono ?_
  rintro _ H ⟨rfl, rfl⟩
  simp (disch := omega) only [go_sem, Nat.reduceEqDiff, Nat.reduceAdd, Nat.reduceMul, Nat.reduceSub, Nat.reduceLeDiff, ↓reduceIte, reduceCtorEq, Int.toNat_natCast, Int.sub_zero, Int.zero_add, Int.add_zero, Int.reduceAdd, Int.reduceSub, Int.reduceMul, Int.reduceNeg, Int.reduceToNat, Nat.add_sub_cancel, List.reduceReplicate, wrap64_id, List.length_cons, List.length_nil, List.all_cons, List.all_nil, Bool.and_true, Bool.true_and, Bool.or_false, Bool.false_or, List.take_succ_cons, List.take_zero, List.drop_succ_cons, List.drop_zero, decide_true, decide_false, Nat.mul_one, Nat.one_mul, Nat.zero_add, Nat.add_zero, Nat.mul_zero, Nat.zero_mul, Bool.not_true, Bool.not_false, Option.map_some, Option.map_none, Nat.le_refl, Nat.zero_lt_succ, ne_eq, not_true_eq_false, not_false_eq_true, Option.isSome_some, and_of, dec_true, dec_false, true_imp_iff, false_imp_iff, beq_self_eq_true, forall_const, getElem_map, List.length_map, dIs, dIss]
  refine (ints_spec G (cntL q) (cntL q) _ (cntL_len q hq) (cntL_len q hq)).mono ?_
  rintro _ H ⟨rfl, rfl⟩
  simp (disch := omega) only [go_sem, Nat.reduceEqDiff, Nat.reduceAdd, Nat.reduceMul, Nat.reduceSub, Nat.reduceLeDiff, ↓reduceIte, reduceCtorEq, Int.toNat_natCast, Int.sub_zero, Int.zero_add, Int.add_zero, Int.reduceAdd, Int.reduceSub, Int.reduceMul, Int.reduceNeg, Int.reduceToNat, Nat.add_sub_cancel, List.reduceReplicate, wrap64_id, List.length_cons, List.length_nil, List.all_cons, List.all_nil, Bool.and_true, Bool.true_and, Bool.or_false, Bool.false_or, List.take_succ_cons, List.take_zero, List.drop_succ_cons, List.drop_zero, decide_true, decide_false, Nat.mul_one, Nat.one_mul, Nat.zero_add, Nat.add_zero, Nat.mul_zero, Nat.zero_mul, Bool.not_true, Bool.not_false, Option.map_some, Option.map_none, Nat.le_refl, Nat.zero_lt_succ, ne_eq, not_true_eq_false, not_false_eq_true, Option.isSome_some, and_of, dec_true, dec_false, true_imp_iff, false_imp_iff, beq_self_eq_true, forall_const, getElem_map, List.length_map, dIs, dIss]
  refine (awake31_spec G _).mono ?_
  rintro _ H ⟨rfl, rfl⟩
  simp (disch := omega) only [go_sem, Nat.reduceEqDiff, Nat.reduceAdd, Nat.reduceMul, Nat.reduceSub, Nat.reduceLeDiff, ↓reduceIte, reduceCtorEq, Int.toNat_natCast, Int.sub_zero, Int.zero_add, Int.add_zero, Int.reduceAdd, Int.reduceSub, Int.reduceMul, Int.reduceNeg, Int.reduceToNat, Nat.add_sub_cancel, List.reduceReplicate, wrap64_id, List.length_cons, List.length_nil, List.all_cons, List.all_nil, Bool.and_true, Bool.true_and, Bool.or_false, Bool.false_or, List.take_succ_cons, List.take_zero, List.drop_succ_cons, List.drop_zero, decide_true, decide_false, Nat.mul_one, Nat.one_mul, Nat.zero_add, Nat.add_zero, Nat.mul_zero, Nat.zero_mul, Bool.not_true, Bool.not_false, Option.map_some, Option.map_none, Nat.le_refl, Nat.zero_lt_succ, ne_eq, not_true_eq_false, not_false_eq_true, Option.isSome_some, and_of, dec_true, dec_false, true_imp_iff, false_imp_iff, beq_self_eq_true, forall_const, getElem_map, List.length_map, dIs, dIss]
  exact DFin.refl ⟨rfl, rfl⟩
end Go.Dl
