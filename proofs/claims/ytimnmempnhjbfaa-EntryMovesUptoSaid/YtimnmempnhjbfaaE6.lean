/- entry: New, Find, Open. -/
import Derived.Test.YtimnmempnhjbfaaE5
set_option linter.unusedSimpArgs false
set_option linter.unusedVariables false
namespace Go.Dl
open Go Go.Proofs
set_option maxRecDepth 10000

theorem clp_mem {e : Nat} {q : List (List Int)} {p : Nat × Int} (h : p ∈ clp e q) : ∃ h : p.1 - e < q.length, e ≤ p.1 ∧ p.2 ∈ q[p.1 - e] := by
  induction q generalizing e with
  | nil => simp [clp] at h
  | cons l q ih =>
    simp only [clp, List.mem_append, List.mem_map] at h
    rcases h with ⟨t, ht, rfl⟩ | h
    · exact ⟨by simp, Nat.le_refl _, by simpa using ht⟩
    · obtain ⟨h1, h2, h3⟩ := ih h
      have e1 : p.1 - e = (p.1 - (e + 1)) + 1 := by omega
      refine ⟨by rw [e1]; simp; exact h1, by omega, ?_⟩
      have : (l :: q)[p.1 - e]'(by rw [e1]; simp; exact h1) = q[p.1 - (e + 1)] := by
        simp only [e1, List.getElem_cons_succ]
      rw [this]; exact h3

/-- The first caller t. -/
def findP (q : List (List Int)) (t : Int) : Option (Nat × Int) := (clp 0 q).find? (fun p => p.2 = t)
def findD (q : List (List Int)) (t : Int) : DVal :=
  if mayQ q then match findP q t with
    | some p => .tuple [dI p.1, dI (idx (q.getD p.1 []) t), .bool true]
    | none => .tuple [dI 0, dI 0, .bool false]
  else .tuple [dI 0, dI 0, .bool false]

theorem find?_step {α : Type} {l : List α} {p : α → Bool} {k : Nat} {x : α} (h : ∀ y ∈ l.take k, p y = false) (hx : l[k]? = some x) (hp : p x = true) : l.find? p = some x := by
  have h1 : k < l.length := (List.getElem?_eq_some_iff.1 hx).1
  have h2 : l[k] = x := (List.getElem?_eq_some_iff.1 hx).2
  rw [List.find?_eq_some_iff_getElem]
  refine ⟨hp, k, h1, h2, fun j hj => ?_⟩
  have := h l[j] (List.mem_take_iff_getElem.2 ⟨j, by omega, rfl⟩)
  simp [this]

theorem find_spec (G : Nat → DVal) (q : List (List Int)) (t : Int) (H : DHeap) (hq : q.length ≤ 1099511627776) (hl : ∀ l ∈ q, l.length ≤ 1099511627776) : DCalls Try.prog G 21 [dIss q, dI t] H (DRet (findD q t) H) := by
  refine dcalls_intro Try.func21 Try.call21 rfl (by kernel_rfl) ?_
  simp (disch := omega) only [go_sem, Nat.reduceEqDiff, Nat.reduceAdd, Nat.reduceMul, Nat.reduceSub, Nat.reduceLeDiff, ↓reduceIte, reduceCtorEq, Int.toNat_natCast, Int.sub_zero, Int.zero_add, Int.add_zero, Int.reduceAdd, Int.reduceSub, Int.reduceMul, Int.reduceNeg, Int.reduceToNat, Nat.add_sub_cancel, List.reduceReplicate, wrap64_id, List.length_cons, List.length_nil, List.all_cons, List.all_nil, Bool.and_true, Bool.true_and, Bool.or_false, Bool.false_or, List.take_succ_cons, List.take_zero, List.drop_succ_cons, List.drop_zero, decide_true, decide_false, Nat.mul_one, Nat.one_mul, Nat.zero_add, Nat.add_zero, Nat.mul_zero, Nat.zero_mul, Bool.not_true, Bool.not_false, Option.map_some, Option.map_none, Nat.le_refl, Nat.zero_lt_succ, ne_eq, not_true_eq_false, not_false_eq_true, Option.isSome_some, and_of, dec_true, dec_false, true_imp_iff, false_imp_iff, beq_self_eq_true, forall_const, getElem_map, List.length_map, dIs, dIss]
  intro r1 h1; dsimp only at h1
  simp (disch := omega) only [go_sem, Nat.reduceEqDiff, Nat.reduceAdd, Nat.reduceMul, Nat.reduceSub, Nat.reduceLeDiff, ↓reduceIte, reduceCtorEq, Int.toNat_natCast, Int.sub_zero, Int.zero_add, Int.add_zero, Int.reduceAdd, Int.reduceSub, Int.reduceMul, Int.reduceNeg, Int.reduceToNat, Nat.add_sub_cancel, List.reduceReplicate, wrap64_id, List.length_cons, List.length_nil, List.all_cons, List.all_nil, Bool.and_true, Bool.true_and, Bool.or_false, Bool.false_or, List.take_succ_cons, List.take_zero, List.drop_succ_cons, List.drop_zero, decide_true, decide_false, Nat.mul_one, Nat.one_mul, Nat.zero_add, Nat.add_zero, Nat.mul_zero, Nat.zero_mul, Bool.not_true, Bool.not_false, Option.map_some, Option.map_none, Nat.le_refl, Nat.zero_lt_succ, ne_eq, not_true_eq_false, not_false_eq_true, Option.isSome_some, and_of, dec_true, dec_false, true_imp_iff, false_imp_iff, beq_self_eq_true, forall_const, getElem_map, List.length_map, dIs, dIss]
  intro r2 h2; dsimp only at h2
  simp (disch := omega) only [go_sem, Nat.reduceEqDiff, Nat.reduceAdd, Nat.reduceMul, Nat.reduceSub, Nat.reduceLeDiff, ↓reduceIte, reduceCtorEq, Int.toNat_natCast, Int.sub_zero, Int.zero_add, Int.add_zero, Int.reduceAdd, Int.reduceSub, Int.reduceMul, Int.reduceNeg, Int.reduceToNat, Nat.add_sub_cancel, List.reduceReplicate, wrap64_id, List.length_cons, List.length_nil, List.all_cons, List.all_nil, Bool.and_true, Bool.true_and, Bool.or_false, Bool.false_or, List.take_succ_cons, List.take_zero, List.drop_succ_cons, List.drop_zero, decide_true, decide_false, Nat.mul_one, Nat.one_mul, Nat.zero_add, Nat.add_zero, Nat.mul_zero, Nat.zero_mul, Bool.not_true, Bool.not_false, Option.map_some, Option.map_none, Nat.le_refl, Nat.zero_lt_succ, ne_eq, not_true_eq_false, not_false_eq_true, Option.isSome_some, and_of, dec_true, dec_false, true_imp_iff, false_imp_iff, beq_self_eq_true, forall_const, getElem_map, List.length_map, dIs, dIss]
  intro r3 h3; dsimp only at h3
  simp (disch := omega) only [go_sem, Nat.reduceEqDiff, Nat.reduceAdd, Nat.reduceMul, Nat.reduceSub, Nat.reduceLeDiff, ↓reduceIte, reduceCtorEq, Int.toNat_natCast, Int.sub_zero, Int.zero_add, Int.add_zero, Int.reduceAdd, Int.reduceSub, Int.reduceMul, Int.reduceNeg, Int.reduceToNat, Nat.add_sub_cancel, List.reduceReplicate, wrap64_id, List.length_cons, List.length_nil, List.all_cons, List.all_nil, Bool.and_true, Bool.true_and, Bool.or_false, Bool.false_or, List.take_succ_cons, List.take_zero, List.drop_succ_cons, List.drop_zero, decide_true, decide_false, Nat.mul_one, Nat.one_mul, Nat.zero_add, Nat.add_zero, Nat.mul_zero, Nat.zero_mul, Bool.not_true, Bool.not_false, Option.map_some, Option.map_none, Nat.le_refl, Nat.zero_lt_succ, ne_eq, not_true_eq_false, not_false_eq_true, Option.isSome_some, and_of, dec_true, dec_false, true_imp_iff, false_imp_iff, beq_self_eq_true, forall_const, getElem_map, List.length_map, dIs, dIss]
  intro r4 h4; dsimp only at h4
  simp (disch := omega) only [go_sem, Nat.reduceEqDiff, Nat.reduceAdd, Nat.reduceMul, Nat.reduceSub, Nat.reduceLeDiff, ↓reduceIte, reduceCtorEq, Int.toNat_natCast, Int.sub_zero, Int.zero_add, Int.add_zero, Int.reduceAdd, Int.reduceSub, Int.reduceMul, Int.reduceNeg, Int.reduceToNat, Nat.add_sub_cancel, List.reduceReplicate, wrap64_id, List.length_cons, List.length_nil, List.all_cons, List.all_nil, Bool.and_true, Bool.true_and, Bool.or_false, Bool.false_or, List.take_succ_cons, List.take_zero, List.drop_succ_cons, List.drop_zero, decide_true, decide_false, Nat.mul_one, Nat.one_mul, Nat.zero_add, Nat.add_zero, Nat.mul_zero, Nat.zero_mul, Bool.not_true, Bool.not_false, Option.map_some, Option.map_none, Nat.le_refl, Nat.zero_lt_succ, ne_eq, not_true_eq_false, not_false_eq_true, Option.isSome_some, and_of, dec_true, dec_false, true_imp_iff, false_imp_iff, beq_self_eq_true, forall_const, getElem_map, List.length_map, dIs, dIss]
  intro r5 h5; dsimp only at h5
  simp only [upd_eq_none] at h1 h2 h3 h4 h5
  simp (disch := omega) only [go_sem, Nat.reduceEqDiff, Nat.reduceAdd, Nat.reduceMul, Nat.reduceSub, Nat.reduceLeDiff, ↓reduceIte, reduceCtorEq, Int.toNat_natCast, Int.sub_zero, Int.zero_add, Int.add_zero, Int.reduceAdd, Int.reduceSub, Int.reduceMul, Int.reduceNeg, Int.reduceToNat, Nat.add_sub_cancel, List.reduceReplicate, wrap64_id, List.length_cons, List.length_nil, List.all_cons, List.all_nil, Bool.and_true, Bool.true_and, Bool.or_false, Bool.false_or, List.take_succ_cons, List.take_zero, List.drop_succ_cons, List.drop_zero, decide_true, decide_false, Nat.mul_one, Nat.one_mul, Nat.zero_add, Nat.add_zero, Nat.mul_zero, Nat.zero_mul, Bool.not_true, Bool.not_false, Option.map_some, Option.map_none, Nat.le_refl, Nat.zero_lt_succ, ne_eq, not_true_eq_false, not_false_eq_true, Option.isSome_some, and_of, dec_true, dec_false, true_imp_iff, false_imp_iff, beq_self_eq_true, forall_const, getElem_map, List.length_map, dIs, dIss, h1, h2, h3, h4, h5]
  obtain ⟨X0, hX, D0, g1, g2, g3, g4, g5⟩ : ∃ X0, upd (upd (upd (upd (upd H r1 (some (.cells [DVal.vslice (q.map dIs) q.length] 22))) r2 (some (.cells [dI t] 3))) r3 (some (.cells [dI 0] 3))) r4 (some (.cells [dI 0] 3))) r5 (some (.cells [.bool false] 4)) = over H X0 ∧
      Disj H X0 ∧ X0 r1 = some (.cells [dIss q] 22) ∧ X0 r2 = some (.cells [dI t] 3) ∧ X0 r3 = some (.cells [dI 0] 3) ∧ X0 r4 = some (.cells [dI 0] 3) ∧ X0 r5 = some (.cells [.bool false] 4) :=
    ⟨upd (upd (upd (upd (upd h0 r1 (some (.cells [dIss q] 22))) r2 (some (.cells [dI t] 3))) r3 (some (.cells [dI 0] 3))) r4 (some (.cells [dI 0] 3))) r5 (some (.cells [.bool false] 4)),
      by simp only [← upd_over, over_h0, dIss], (((((Disj.h0 H).hi h1 _).hi h2.2.2 _).hi h3.2.2.2.2 _).hi h4.2.2.2.2.2.2 _).hi h5.2.2.2.2.2.2.2.2 _, by simp [upd, h2, h3, h4, h5], by simp [upd, h2, h3, h4, h5], by simp [upd, h2, h3, h4, h5], by simp [upd, h2, h3, h4, h5], by simp [upd, h2, h3, h4, h5]⟩
  refine (may_spec G q _ hq hl).mono ?_
  rintro _ _ ⟨rfl, rfl⟩
  rw [hX]
  have o1 := fun Hi => over_x (Hi := Hi) g1
  have o2 := fun Hi => over_x (Hi := Hi) g2
  have o3 := fun Hi => over_x (Hi := Hi) g3
  have o4 := fun Hi => over_x (Hi := Hi) g4
  have o5 := fun Hi => over_x (Hi := Hi) g5
  cases hm : mayQ q with
  | false =>
    simp (disch := omega) only [go_sem, Nat.reduceEqDiff, Nat.reduceAdd, Nat.reduceMul, Nat.reduceSub, Nat.reduceLeDiff, ↓reduceIte, reduceCtorEq, Int.toNat_natCast, Int.sub_zero, Int.zero_add, Int.add_zero, Int.reduceAdd, Int.reduceSub, Int.reduceMul, Int.reduceNeg, Int.reduceToNat, Nat.add_sub_cancel, List.reduceReplicate, wrap64_id, List.length_cons, List.length_nil, List.all_cons, List.all_nil, Bool.and_true, Bool.true_and, Bool.or_false, Bool.false_or, List.take_succ_cons, List.take_zero, List.drop_succ_cons, List.drop_zero, decide_true, decide_false, Nat.mul_one, Nat.one_mul, Nat.zero_add, Nat.add_zero, Nat.mul_zero, Nat.zero_mul, Bool.not_true, Bool.not_false, Option.map_some, Option.map_none, Nat.le_refl, Nat.zero_lt_succ, ne_eq, not_true_eq_false, not_false_eq_true, Option.isSome_some, and_of, dec_true, dec_false, true_imp_iff, false_imp_iff, beq_self_eq_true, forall_const, getElem_map, List.length_map, dIs, dIss, h1, h2, h3, h4, h5, o1, o2, o3, o4, o5]
    refine DFin.over ((D0.st g3 _).hi (D0 r4 (by simp [g4])) _ |>.hi (D0 r5 (by simp [g5])) _) ⟨?_, rfl⟩
    simp [findD, hm]
  | true =>
    simp (disch := omega) only [go_sem, Nat.reduceEqDiff, Nat.reduceAdd, Nat.reduceMul, Nat.reduceSub, Nat.reduceLeDiff, ↓reduceIte, reduceCtorEq, Int.toNat_natCast, Int.sub_zero, Int.zero_add, Int.add_zero, Int.reduceAdd, Int.reduceSub, Int.reduceMul, Int.reduceNeg, Int.reduceToNat, Nat.add_sub_cancel, List.reduceReplicate, wrap64_id, List.length_cons, List.length_nil, List.all_cons, List.all_nil, Bool.and_true, Bool.true_and, Bool.or_false, Bool.false_or, List.take_succ_cons, List.take_zero, List.drop_succ_cons, List.drop_zero, decide_true, decide_false, Nat.mul_one, Nat.one_mul, Nat.zero_add, Nat.add_zero, Nat.mul_zero, Nat.zero_mul, Bool.not_true, Bool.not_false, Option.map_some, Option.map_none, Nat.le_refl, Nat.zero_lt_succ, ne_eq, not_true_eq_false, not_false_eq_true, Option.isSome_some, and_of, dec_true, dec_false, true_imp_iff, false_imp_iff, beq_self_eq_true, forall_const, getElem_map, List.length_map, dIs, dIss, h1, h2, h3, h4, h5, o1, o2, o3, o4, o5]
    refine (callers_spec G q _).mono ?_
    rintro _ _ ⟨rfl, rfl⟩
    simp (disch := omega) only [go_sem, Nat.reduceEqDiff, Nat.reduceAdd, Nat.reduceMul, Nat.reduceSub, Nat.reduceLeDiff, ↓reduceIte, reduceCtorEq, Int.toNat_natCast, Int.sub_zero, Int.zero_add, Int.add_zero, Int.reduceAdd, Int.reduceSub, Int.reduceMul, Int.reduceNeg, Int.reduceToNat, Nat.add_sub_cancel, List.reduceReplicate, wrap64_id, List.length_cons, List.length_nil, List.all_cons, List.all_nil, Bool.and_true, Bool.true_and, Bool.or_false, Bool.false_or, List.take_succ_cons, List.take_zero, List.drop_succ_cons, List.drop_zero, decide_true, decide_false, Nat.mul_one, Nat.one_mul, Nat.zero_add, Nat.add_zero, Nat.mul_zero, Nat.zero_mul, Bool.not_true, Bool.not_false, Option.map_some, Option.map_none, Nat.le_refl, Nat.zero_lt_succ, ne_eq, not_true_eq_false, not_false_eq_true, Option.isSome_some, and_of, dec_true, dec_false, true_imp_iff, false_imp_iff, beq_self_eq_true, forall_const, getElem_map, List.length_map, dIs, dIss]
    refine dwp_range 84 _ (cl 0 q) (callers1_iter G q hq hl) rfl (by kernel_rfl) (cl_len 0 q) H X0 rfl D0
      (fun k X => X = X0 ∧ ∀ p ∈ (clp 0 q).take k, p.2 ≠ t)
      (fun c X => c = .ret ∧ ∃ p, findP q t = some p ∧ X r3 = some (.cells [dI p.1] 3) ∧ X r4 = some (.cells [dI (idx (q.getD p.1 []) t)] 3) ∧ X r5 = some (.cells [.bool true] 4)) ⟨rfl, by simp⟩ ?_ ?_ ?_
    · rintro k x Hi X d1 hx ⟨rfl, hn⟩
      obtain ⟨⟨e, u⟩, hp, rfl⟩ := cl_get hx
      obtain ⟨he, _, hu⟩ := clp_mem (List.mem_of_getElem? hp)
      simp only [Nat.sub_zero] at he hu
      by_cases hut : u = t
      · simp (disch := omega) only [go_sem, Nat.reduceEqDiff, Nat.reduceAdd, Nat.reduceMul, Nat.reduceSub, Nat.reduceLeDiff, ↓reduceIte, reduceCtorEq, Int.toNat_natCast, Int.sub_zero, Int.zero_add, Int.add_zero, Int.reduceAdd, Int.reduceSub, Int.reduceMul, Int.reduceNeg, Int.reduceToNat, Nat.add_sub_cancel, List.reduceReplicate, wrap64_id, List.length_cons, List.length_nil, List.all_cons, List.all_nil, Bool.and_true, Bool.true_and, Bool.or_false, Bool.false_or, List.take_succ_cons, List.take_zero, List.drop_succ_cons, List.drop_zero, decide_true, decide_false, Nat.mul_one, Nat.one_mul, Nat.zero_add, Nat.add_zero, Nat.mul_zero, Nat.zero_mul, Bool.not_true, Bool.not_false, Option.map_some, Option.map_none, Nat.le_refl, Nat.zero_lt_succ, ne_eq, not_true_eq_false, not_false_eq_true, Option.isSome_some, and_of, dec_true, dec_false, true_imp_iff, false_imp_iff, beq_self_eq_true, forall_const, getElem_map, List.length_map, dIs, dIss, h1, h2, h3, h4, h5, o1, o2, o3, o4, o5, hut]
        refine dwp_draws (by kernel_rfl) (.take 0 (.take 1 (.take 2 (.take 3 (.take 4 (.take 5 (.go 6 [1] (.go 7 [5, 4, 1] (.go 8 [] (.go 9 [] .done)))))))))) (by kernel_rfl) ?_
        simp (disch := omega) only [go_sem, Nat.reduceEqDiff, Nat.reduceAdd, Nat.reduceMul, Nat.reduceSub, Nat.reduceLeDiff, ↓reduceIte, reduceCtorEq, Int.toNat_natCast, Int.sub_zero, Int.zero_add, Int.add_zero, Int.reduceAdd, Int.reduceSub, Int.reduceMul, Int.reduceNeg, Int.reduceToNat, Nat.add_sub_cancel, List.reduceReplicate, wrap64_id, List.length_cons, List.length_nil, List.all_cons, List.all_nil, Bool.and_true, Bool.true_and, Bool.or_false, Bool.false_or, List.take_succ_cons, List.take_zero, List.drop_succ_cons, List.drop_zero, decide_true, decide_false, Nat.mul_one, Nat.one_mul, Nat.zero_add, Nat.add_zero, Nat.mul_zero, Nat.zero_mul, Bool.not_true, Bool.not_false, Option.map_some, Option.map_none, Nat.le_refl, Nat.zero_lt_succ, ne_eq, not_true_eq_false, not_false_eq_true, Option.isSome_some, and_of, dec_true, dec_false, true_imp_iff, false_imp_iff, beq_self_eq_true, forall_const, getElem_map, List.length_map, dIs, dIss, h1, h2, h3, h4, h5, o1, o2, o3, o4, o5, hut]
        refine (index_spec G q[e] t _ (hl _ (List.getElem_mem he))).mono ?_
        rintro _ _ ⟨rfl, rfl⟩
        simp (disch := omega) only [go_sem, Nat.reduceEqDiff, Nat.reduceAdd, Nat.reduceMul, Nat.reduceSub, Nat.reduceLeDiff, ↓reduceIte, reduceCtorEq, Int.toNat_natCast, Int.sub_zero, Int.zero_add, Int.add_zero, Int.reduceAdd, Int.reduceSub, Int.reduceMul, Int.reduceNeg, Int.reduceToNat, Nat.add_sub_cancel, List.reduceReplicate, wrap64_id, List.length_cons, List.length_nil, List.all_cons, List.all_nil, Bool.and_true, Bool.true_and, Bool.or_false, Bool.false_or, List.take_succ_cons, List.take_zero, List.drop_succ_cons, List.drop_zero, decide_true, decide_false, Nat.mul_one, Nat.one_mul, Nat.zero_add, Nat.add_zero, Nat.mul_zero, Nat.zero_mul, Bool.not_true, Bool.not_false, Option.map_some, Option.map_none, Nat.le_refl, Nat.zero_lt_succ, ne_eq, not_true_eq_false, not_false_eq_true, Option.isSome_some, and_of, dec_true, dec_false, true_imp_iff, false_imp_iff, beq_self_eq_true, forall_const, getElem_map, List.length_map, dIs, dIss, h1, h2, h3, h4, h5, o1, o2, o3, o4, o5, hut]
        refine ⟨_, rfl, (d1.hi (d1 r3 (by simp [g3])) _ |>.hi (d1 r4 (by simp [g4])) _).hi (d1 r5 (by simp [g5])) _, (e, u), ?_, ?_, ?_, ?_⟩
        · exact find?_step (fun y hy => by simpa using hn y hy) hp (by simp [hut])
        · simp [upd, h2, h3, h4, h5]
        · have : q.getD e [] = q[e] := by simp [he]
          rw [this]
          simp [upd, h2, h3, h4, h5]
        · simp [upd, h2, h3, h4, h5]
      · simp (disch := omega) only [go_sem, Nat.reduceEqDiff, Nat.reduceAdd, Nat.reduceMul, Nat.reduceSub, Nat.reduceLeDiff, ↓reduceIte, reduceCtorEq, Int.toNat_natCast, Int.sub_zero, Int.zero_add, Int.add_zero, Int.reduceAdd, Int.reduceSub, Int.reduceMul, Int.reduceNeg, Int.reduceToNat, Nat.add_sub_cancel, List.reduceReplicate, wrap64_id, List.length_cons, List.length_nil, List.all_cons, List.all_nil, Bool.and_true, Bool.true_and, Bool.or_false, Bool.false_or, List.take_succ_cons, List.take_zero, List.drop_succ_cons, List.drop_zero, decide_true, decide_false, Nat.mul_one, Nat.one_mul, Nat.zero_add, Nat.add_zero, Nat.mul_zero, Nat.zero_mul, Bool.not_true, Bool.not_false, Option.map_some, Option.map_none, Nat.le_refl, Nat.zero_lt_succ, ne_eq, not_true_eq_false, not_false_eq_true, Option.isSome_some, and_of, dec_true, dec_false, true_imp_iff, false_imp_iff, beq_self_eq_true, forall_const, getElem_map, List.length_map, dIs, dIss, h1, h2, h3, h4, h5, o1, o2, o3, o4, o5, hut]
        refine ⟨_, rfl, d1, rfl, fun p hp' => ?_⟩
        rw [take_succ_get hp] at hp'
        rcases List.mem_append.1 hp' with h | h
        · exact hn p h
        · simp at h; subst h; exact hut
    · rintro X d1 ⟨rfl, hn⟩
      simp (disch := omega) only [go_sem, Nat.reduceEqDiff, Nat.reduceAdd, Nat.reduceMul, Nat.reduceSub, Nat.reduceLeDiff, ↓reduceIte, reduceCtorEq, Int.toNat_natCast, Int.sub_zero, Int.zero_add, Int.add_zero, Int.reduceAdd, Int.reduceSub, Int.reduceMul, Int.reduceNeg, Int.reduceToNat, Nat.add_sub_cancel, List.reduceReplicate, wrap64_id, List.length_cons, List.length_nil, List.all_cons, List.all_nil, Bool.and_true, Bool.true_and, Bool.or_false, Bool.false_or, List.take_succ_cons, List.take_zero, List.drop_succ_cons, List.drop_zero, decide_true, decide_false, Nat.mul_one, Nat.one_mul, Nat.zero_add, Nat.add_zero, Nat.mul_zero, Nat.zero_mul, Bool.not_true, Bool.not_false, Option.map_some, Option.map_none, Nat.le_refl, Nat.zero_lt_succ, ne_eq, not_true_eq_false, not_false_eq_true, Option.isSome_some, and_of, dec_true, dec_false, true_imp_iff, false_imp_iff, beq_self_eq_true, forall_const, getElem_map, List.length_map, dIs, dIss, h1, h2, h3, h4, h5, o1, o2, o3, o4, o5]
      refine DFin.over ((d1.hi (d1 r3 (by simp [g3])) _ |>.hi (d1 r4 (by simp [g4])) _).hi (d1 r5 (by simp [g5])) _) ⟨?_, rfl⟩
      have hf : findP q t = none := by
        unfold findP
        rw [List.find?_eq_none]
        intro p hp
        have : p ∈ (clp 0 q).take (cl 0 q).length := by rw [cl, List.length_map, List.take_length]; exact hp
        simpa using hn p this
      simp [findD, hm, hf]
    · rintro c X d1 ⟨rfl, p, hp, k3, k4, k5⟩
      have o3 := over_x (Hi := H) k3
      have o4 := over_x (Hi := H) k4
      have o5 := over_x (Hi := H) k5
      simp (disch := omega) only [go_sem, Nat.reduceEqDiff, Nat.reduceAdd, Nat.reduceMul, Nat.reduceSub, Nat.reduceLeDiff, ↓reduceIte, reduceCtorEq, Int.toNat_natCast, Int.sub_zero, Int.zero_add, Int.add_zero, Int.reduceAdd, Int.reduceSub, Int.reduceMul, Int.reduceNeg, Int.reduceToNat, Nat.add_sub_cancel, List.reduceReplicate, wrap64_id, List.length_cons, List.length_nil, List.all_cons, List.all_nil, Bool.and_true, Bool.true_and, Bool.or_false, Bool.false_or, List.take_succ_cons, List.take_zero, List.drop_succ_cons, List.drop_zero, decide_true, decide_false, Nat.mul_one, Nat.one_mul, Nat.zero_add, Nat.add_zero, Nat.mul_zero, Nat.zero_mul, Bool.not_true, Bool.not_false, Option.map_some, Option.map_none, Nat.le_refl, Nat.zero_lt_succ, ne_eq, not_true_eq_false, not_false_eq_true, Option.isSome_some, and_of, dec_true, dec_false, true_imp_iff, false_imp_iff, beq_self_eq_true, forall_const, getElem_map, List.length_map, dIs, dIss, DJump, o3, o4, o5]
      refine DFin.over d1 ⟨?_, rfl⟩
      simp [findD, hm, hp]

/-- The first open entry with a caller, and that caller. -/
def openP (q : List (List Int)) (o : List Bool) : Option (Nat × Int) := (clp 0 q).find? (fun p => o.getD p.1 false)
def openD (q : List (List Int)) (o : List Bool) : DVal :=
  if mayQ q then match openP q o with
    | some p => .tuple [dI p.1, dI p.2, .bool true]
    | none => .tuple [dI 0, dI 0, .bool false]
  else .tuple [dI 0, dI 0, .bool false]
def dBs (o : List Bool) : DVal := .vslice (o.map .bool) o.length

theorem open_spec (G : Nat → DVal) (q : List (List Int)) (o : List Bool) (H : DHeap) (hq : q.length ≤ 1099511627776) (hl : ∀ l ∈ q, l.length ≤ 1099511627776) (ho : o.length ≤ 1099511627776) : DCalls Try.prog G 25 [dIss q, dBs o] H (DRet (openD q o) H) := by
  refine dcalls_intro Try.func25 Try.call25 rfl (by kernel_rfl) ?_
  simp (disch := omega) only [go_sem, Nat.reduceEqDiff, Nat.reduceAdd, Nat.reduceMul, Nat.reduceSub, Nat.reduceLeDiff, ↓reduceIte, reduceCtorEq, Int.toNat_natCast, Int.sub_zero, Int.zero_add, Int.add_zero, Int.reduceAdd, Int.reduceSub, Int.reduceMul, Int.reduceNeg, Int.reduceToNat, Nat.add_sub_cancel, List.reduceReplicate, wrap64_id, List.length_cons, List.length_nil, List.all_cons, List.all_nil, Bool.and_true, Bool.true_and, Bool.or_false, Bool.false_or, List.take_succ_cons, List.take_zero, List.drop_succ_cons, List.drop_zero, decide_true, decide_false, Nat.mul_one, Nat.one_mul, Nat.zero_add, Nat.add_zero, Nat.mul_zero, Nat.zero_mul, Bool.not_true, Bool.not_false, Option.map_some, Option.map_none, Nat.le_refl, Nat.zero_lt_succ, ne_eq, not_true_eq_false, not_false_eq_true, Option.isSome_some, and_of, dec_true, dec_false, true_imp_iff, false_imp_iff, beq_self_eq_true, forall_const, getElem_map, List.length_map, dIs, dIss, dBs]
  intro r2 h2; dsimp only at h2
  simp (disch := omega) only [go_sem, Nat.reduceEqDiff, Nat.reduceAdd, Nat.reduceMul, Nat.reduceSub, Nat.reduceLeDiff, ↓reduceIte, reduceCtorEq, Int.toNat_natCast, Int.sub_zero, Int.zero_add, Int.add_zero, Int.reduceAdd, Int.reduceSub, Int.reduceMul, Int.reduceNeg, Int.reduceToNat, Nat.add_sub_cancel, List.reduceReplicate, wrap64_id, List.length_cons, List.length_nil, List.all_cons, List.all_nil, Bool.and_true, Bool.true_and, Bool.or_false, Bool.false_or, List.take_succ_cons, List.take_zero, List.drop_succ_cons, List.drop_zero, decide_true, decide_false, Nat.mul_one, Nat.one_mul, Nat.zero_add, Nat.add_zero, Nat.mul_zero, Nat.zero_mul, Bool.not_true, Bool.not_false, Option.map_some, Option.map_none, Nat.le_refl, Nat.zero_lt_succ, ne_eq, not_true_eq_false, not_false_eq_true, Option.isSome_some, and_of, dec_true, dec_false, true_imp_iff, false_imp_iff, beq_self_eq_true, forall_const, getElem_map, List.length_map, dIs, dIss]
  intro r3 h3; dsimp only at h3
  simp (disch := omega) only [go_sem, Nat.reduceEqDiff, Nat.reduceAdd, Nat.reduceMul, Nat.reduceSub, Nat.reduceLeDiff, ↓reduceIte, reduceCtorEq, Int.toNat_natCast, Int.sub_zero, Int.zero_add, Int.add_zero, Int.reduceAdd, Int.reduceSub, Int.reduceMul, Int.reduceNeg, Int.reduceToNat, Nat.add_sub_cancel, List.reduceReplicate, wrap64_id, List.length_cons, List.length_nil, List.all_cons, List.all_nil, Bool.and_true, Bool.true_and, Bool.or_false, Bool.false_or, List.take_succ_cons, List.take_zero, List.drop_succ_cons, List.drop_zero, decide_true, decide_false, Nat.mul_one, Nat.one_mul, Nat.zero_add, Nat.add_zero, Nat.mul_zero, Nat.zero_mul, Bool.not_true, Bool.not_false, Option.map_some, Option.map_none, Nat.le_refl, Nat.zero_lt_succ, ne_eq, not_true_eq_false, not_false_eq_true, Option.isSome_some, and_of, dec_true, dec_false, true_imp_iff, false_imp_iff, beq_self_eq_true, forall_const, getElem_map, List.length_map, dIs, dIss]
  intro r4 h4; dsimp only at h4
  simp (disch := omega) only [go_sem, Nat.reduceEqDiff, Nat.reduceAdd, Nat.reduceMul, Nat.reduceSub, Nat.reduceLeDiff, ↓reduceIte, reduceCtorEq, Int.toNat_natCast, Int.sub_zero, Int.zero_add, Int.add_zero, Int.reduceAdd, Int.reduceSub, Int.reduceMul, Int.reduceNeg, Int.reduceToNat, Nat.add_sub_cancel, List.reduceReplicate, wrap64_id, List.length_cons, List.length_nil, List.all_cons, List.all_nil, Bool.and_true, Bool.true_and, Bool.or_false, Bool.false_or, List.take_succ_cons, List.take_zero, List.drop_succ_cons, List.drop_zero, decide_true, decide_false, Nat.mul_one, Nat.one_mul, Nat.zero_add, Nat.add_zero, Nat.mul_zero, Nat.zero_mul, Bool.not_true, Bool.not_false, Option.map_some, Option.map_none, Nat.le_refl, Nat.zero_lt_succ, ne_eq, not_true_eq_false, not_false_eq_true, Option.isSome_some, and_of, dec_true, dec_false, true_imp_iff, false_imp_iff, beq_self_eq_true, forall_const, getElem_map, List.length_map, dIs, dIss]
  intro r5 h5; dsimp only at h5
  simp only [upd_eq_none] at h2 h3 h4 h5
  simp (disch := omega) only [go_sem, Nat.reduceEqDiff, Nat.reduceAdd, Nat.reduceMul, Nat.reduceSub, Nat.reduceLeDiff, ↓reduceIte, reduceCtorEq, Int.toNat_natCast, Int.sub_zero, Int.zero_add, Int.add_zero, Int.reduceAdd, Int.reduceSub, Int.reduceMul, Int.reduceNeg, Int.reduceToNat, Nat.add_sub_cancel, List.reduceReplicate, wrap64_id, List.length_cons, List.length_nil, List.all_cons, List.all_nil, Bool.and_true, Bool.true_and, Bool.or_false, Bool.false_or, List.take_succ_cons, List.take_zero, List.drop_succ_cons, List.drop_zero, decide_true, decide_false, Nat.mul_one, Nat.one_mul, Nat.zero_add, Nat.add_zero, Nat.mul_zero, Nat.zero_mul, Bool.not_true, Bool.not_false, Option.map_some, Option.map_none, Nat.le_refl, Nat.zero_lt_succ, ne_eq, not_true_eq_false, not_false_eq_true, Option.isSome_some, and_of, dec_true, dec_false, true_imp_iff, false_imp_iff, beq_self_eq_true, forall_const, getElem_map, List.length_map, dIs, dIss, h2, h3, h4, h5]
  obtain ⟨X0, hX, D0, g2, g3, g4, g5⟩ : ∃ X0, upd (upd (upd (upd H r2 (some (.cells [DVal.vslice (o.map .bool) o.length] 40))) r3 (some (.cells [dI 0] 3))) r4 (some (.cells [dI 0] 3))) r5 (some (.cells [.bool false] 4)) = over H X0 ∧
      Disj H X0 ∧ X0 r2 = some (.cells [DVal.vslice (o.map .bool) o.length] 40) ∧ X0 r3 = some (.cells [dI 0] 3) ∧ X0 r4 = some (.cells [dI 0] 3) ∧ X0 r5 = some (.cells [.bool false] 4) :=
    ⟨upd (upd (upd (upd h0 r2 (some (.cells [DVal.vslice (o.map .bool) o.length] 40))) r3 (some (.cells [dI 0] 3))) r4 (some (.cells [dI 0] 3))) r5 (some (.cells [.bool false] 4)),
      by simp only [← upd_over, over_h0], ((((Disj.h0 H).hi h2 _).hi h3.2.2 _).hi h4.2.2.2.2 _).hi h5.2.2.2.2.2.2 _, by simp [upd, h3, h4, h5], by simp [upd, h3, h4, h5], by simp [upd, h3, h4, h5], by simp [upd, h3, h4, h5]⟩
  refine (may_spec G q _ hq hl).mono ?_
  rintro _ _ ⟨rfl, rfl⟩
  rw [hX]
  have o2 := fun Hi => over_x (Hi := Hi) g2
  have o3 := fun Hi => over_x (Hi := Hi) g3
  have o4 := fun Hi => over_x (Hi := Hi) g4
  have o5 := fun Hi => over_x (Hi := Hi) g5
  cases hm : mayQ q with
  | false =>
    simp (disch := omega) only [go_sem, Nat.reduceEqDiff, Nat.reduceAdd, Nat.reduceMul, Nat.reduceSub, Nat.reduceLeDiff, ↓reduceIte, reduceCtorEq, Int.toNat_natCast, Int.sub_zero, Int.zero_add, Int.add_zero, Int.reduceAdd, Int.reduceSub, Int.reduceMul, Int.reduceNeg, Int.reduceToNat, Nat.add_sub_cancel, List.reduceReplicate, wrap64_id, List.length_cons, List.length_nil, List.all_cons, List.all_nil, Bool.and_true, Bool.true_and, Bool.or_false, Bool.false_or, List.take_succ_cons, List.take_zero, List.drop_succ_cons, List.drop_zero, decide_true, decide_false, Nat.mul_one, Nat.one_mul, Nat.zero_add, Nat.add_zero, Nat.mul_zero, Nat.zero_mul, Bool.not_true, Bool.not_false, Option.map_some, Option.map_none, Nat.le_refl, Nat.zero_lt_succ, ne_eq, not_true_eq_false, not_false_eq_true, Option.isSome_some, and_of, dec_true, dec_false, true_imp_iff, false_imp_iff, beq_self_eq_true, forall_const, getElem_map, List.length_map, dIs, dIss, h3, h4, h5, o2, o3, o4, o5]
    refine DFin.over ((D0.st g3 _).hi (D0 r4 (by simp [g4])) _ |>.hi (D0 r5 (by simp [g5])) _) ⟨?_, rfl⟩
    simp [openD, hm]
  | true =>
    simp (disch := omega) only [go_sem, Nat.reduceEqDiff, Nat.reduceAdd, Nat.reduceMul, Nat.reduceSub, Nat.reduceLeDiff, ↓reduceIte, reduceCtorEq, Int.toNat_natCast, Int.sub_zero, Int.zero_add, Int.add_zero, Int.reduceAdd, Int.reduceSub, Int.reduceMul, Int.reduceNeg, Int.reduceToNat, Nat.add_sub_cancel, List.reduceReplicate, wrap64_id, List.length_cons, List.length_nil, List.all_cons, List.all_nil, Bool.and_true, Bool.true_and, Bool.or_false, Bool.false_or, List.take_succ_cons, List.take_zero, List.drop_succ_cons, List.drop_zero, decide_true, decide_false, Nat.mul_one, Nat.one_mul, Nat.zero_add, Nat.add_zero, Nat.mul_zero, Nat.zero_mul, Bool.not_true, Bool.not_false, Option.map_some, Option.map_none, Nat.le_refl, Nat.zero_lt_succ, ne_eq, not_true_eq_false, not_false_eq_true, Option.isSome_some, and_of, dec_true, dec_false, true_imp_iff, false_imp_iff, beq_self_eq_true, forall_const, getElem_map, List.length_map, dIs, dIss, h3, h4, h5, o2, o3, o4, o5]
    refine (callers_spec G q _).mono ?_
    rintro _ _ ⟨rfl, rfl⟩
    simp (disch := omega) only [go_sem, Nat.reduceEqDiff, Nat.reduceAdd, Nat.reduceMul, Nat.reduceSub, Nat.reduceLeDiff, ↓reduceIte, reduceCtorEq, Int.toNat_natCast, Int.sub_zero, Int.zero_add, Int.add_zero, Int.reduceAdd, Int.reduceSub, Int.reduceMul, Int.reduceNeg, Int.reduceToNat, Nat.add_sub_cancel, List.reduceReplicate, wrap64_id, List.length_cons, List.length_nil, List.all_cons, List.all_nil, Bool.and_true, Bool.true_and, Bool.or_false, Bool.false_or, List.take_succ_cons, List.take_zero, List.drop_succ_cons, List.drop_zero, decide_true, decide_false, Nat.mul_one, Nat.one_mul, Nat.zero_add, Nat.add_zero, Nat.mul_zero, Nat.zero_mul, Bool.not_true, Bool.not_false, Option.map_some, Option.map_none, Nat.le_refl, Nat.zero_lt_succ, ne_eq, not_true_eq_false, not_false_eq_true, Option.isSome_some, and_of, dec_true, dec_false, true_imp_iff, false_imp_iff, beq_self_eq_true, forall_const, getElem_map, List.length_map, dIs, dIss]
    refine dwp_range 84 _ (cl 0 q) (callers1_iter G q hq hl) rfl (by kernel_rfl) (cl_len 0 q) H X0 rfl D0
      (fun k X => X = X0 ∧ ∀ p ∈ (clp 0 q).take k, o.getD p.1 false = false)
      (fun c X => c = .ret ∧ ∃ p, openP q o = some p ∧ X r3 = some (.cells [dI p.1] 3) ∧ X r4 = some (.cells [dI p.2] 3) ∧ X r5 = some (.cells [.bool true] 4)) ⟨rfl, by simp⟩ ?_ ?_ ?_
    · rintro k x Hi X d1 hx ⟨rfl, hn⟩
      obtain ⟨⟨e, u⟩, hp, rfl⟩ := cl_get hx
      have stay : o.getD e false = false → ∀ p ∈ (clp 0 q).take (k + 1), o.getD p.1 false = false := fun h0 p hp' => by
        rw [take_succ_get hp] at hp'
        rcases List.mem_append.1 hp' with h | h
        · exact hn p h
        · simp only [List.mem_singleton] at h; subst h; exact h0
      by_cases he : e < o.length
      · have hge : o.getD e false = o[e] := by simp [he]
        cases hut : o[e] with
        | true =>
          simp (disch := omega) only [go_sem, Nat.reduceEqDiff, Nat.reduceAdd, Nat.reduceMul, Nat.reduceSub, Nat.reduceLeDiff, ↓reduceIte, reduceCtorEq, Int.toNat_natCast, Int.sub_zero, Int.zero_add, Int.add_zero, Int.reduceAdd, Int.reduceSub, Int.reduceMul, Int.reduceNeg, Int.reduceToNat, Nat.add_sub_cancel, List.reduceReplicate, wrap64_id, List.length_cons, List.length_nil, List.all_cons, List.all_nil, Bool.and_true, Bool.true_and, Bool.or_false, Bool.false_or, List.take_succ_cons, List.take_zero, List.drop_succ_cons, List.drop_zero, decide_true, decide_false, Nat.mul_one, Nat.one_mul, Nat.zero_add, Nat.add_zero, Nat.mul_zero, Nat.zero_mul, Bool.not_true, Bool.not_false, Option.map_some, Option.map_none, Nat.le_refl, Nat.zero_lt_succ, ne_eq, not_true_eq_false, not_false_eq_true, Option.isSome_some, and_of, dec_true, dec_false, true_imp_iff, false_imp_iff, beq_self_eq_true, forall_const, getElem_map, List.length_map, dIs, dIss, h3, h4, h5, o2, o3, o4, o5, hut]
          refine ⟨_, rfl, (d1.hi (d1 r3 (by simp [g3])) _ |>.hi (d1 r4 (by simp [g4])) _).hi (d1 r5 (by simp [g5])) _, (e, u), ?_, ?_, ?_, ?_⟩
          · exact find?_step hn hp (by rw [hge, hut])
          · simp [upd, h3, h4, h5]
          · simp [upd, h3, h4, h5]
          · simp [upd, h3, h4, h5]
        | false =>
          simp (disch := omega) only [go_sem, Nat.reduceEqDiff, Nat.reduceAdd, Nat.reduceMul, Nat.reduceSub, Nat.reduceLeDiff, ↓reduceIte, reduceCtorEq, Int.toNat_natCast, Int.sub_zero, Int.zero_add, Int.add_zero, Int.reduceAdd, Int.reduceSub, Int.reduceMul, Int.reduceNeg, Int.reduceToNat, Nat.add_sub_cancel, List.reduceReplicate, wrap64_id, List.length_cons, List.length_nil, List.all_cons, List.all_nil, Bool.and_true, Bool.true_and, Bool.or_false, Bool.false_or, List.take_succ_cons, List.take_zero, List.drop_succ_cons, List.drop_zero, decide_true, decide_false, Nat.mul_one, Nat.one_mul, Nat.zero_add, Nat.add_zero, Nat.mul_zero, Nat.zero_mul, Bool.not_true, Bool.not_false, Option.map_some, Option.map_none, Nat.le_refl, Nat.zero_lt_succ, ne_eq, not_true_eq_false, not_false_eq_true, Option.isSome_some, and_of, dec_true, dec_false, true_imp_iff, false_imp_iff, beq_self_eq_true, forall_const, getElem_map, List.length_map, dIs, dIss, h3, h4, h5, o2, o3, o4, o5, hut]
          exact ⟨_, rfl, d1, rfl, stay (by rw [hge, hut])⟩
      · have hge : o.getD e false = false := by simp [he]
        simp (disch := omega) only [go_sem, Nat.reduceEqDiff, Nat.reduceAdd, Nat.reduceMul, Nat.reduceSub, Nat.reduceLeDiff, ↓reduceIte, reduceCtorEq, Int.toNat_natCast, Int.sub_zero, Int.zero_add, Int.add_zero, Int.reduceAdd, Int.reduceSub, Int.reduceMul, Int.reduceNeg, Int.reduceToNat, Nat.add_sub_cancel, List.reduceReplicate, wrap64_id, List.length_cons, List.length_nil, List.all_cons, List.all_nil, Bool.and_true, Bool.true_and, Bool.or_false, Bool.false_or, List.take_succ_cons, List.take_zero, List.drop_succ_cons, List.drop_zero, decide_true, decide_false, Nat.mul_one, Nat.one_mul, Nat.zero_add, Nat.add_zero, Nat.mul_zero, Nat.zero_mul, Bool.not_true, Bool.not_false, Option.map_some, Option.map_none, Nat.le_refl, Nat.zero_lt_succ, ne_eq, not_true_eq_false, not_false_eq_true, Option.isSome_some, and_of, dec_true, dec_false, true_imp_iff, false_imp_iff, beq_self_eq_true, forall_const, getElem_map, List.length_map, dIs, dIss, h3, h4, h5, o2, o3, o4, o5]
        exact ⟨_, rfl, d1, rfl, stay hge⟩
    · rintro X d1 ⟨rfl, hn⟩
      simp (disch := omega) only [go_sem, Nat.reduceEqDiff, Nat.reduceAdd, Nat.reduceMul, Nat.reduceSub, Nat.reduceLeDiff, ↓reduceIte, reduceCtorEq, Int.toNat_natCast, Int.sub_zero, Int.zero_add, Int.add_zero, Int.reduceAdd, Int.reduceSub, Int.reduceMul, Int.reduceNeg, Int.reduceToNat, Nat.add_sub_cancel, List.reduceReplicate, wrap64_id, List.length_cons, List.length_nil, List.all_cons, List.all_nil, Bool.and_true, Bool.true_and, Bool.or_false, Bool.false_or, List.take_succ_cons, List.take_zero, List.drop_succ_cons, List.drop_zero, decide_true, decide_false, Nat.mul_one, Nat.one_mul, Nat.zero_add, Nat.add_zero, Nat.mul_zero, Nat.zero_mul, Bool.not_true, Bool.not_false, Option.map_some, Option.map_none, Nat.le_refl, Nat.zero_lt_succ, ne_eq, not_true_eq_false, not_false_eq_true, Option.isSome_some, and_of, dec_true, dec_false, true_imp_iff, false_imp_iff, beq_self_eq_true, forall_const, getElem_map, List.length_map, dIs, dIss, h3, h4, h5, o2, o3, o4, o5]
      refine DFin.over ((d1.hi (d1 r3 (by simp [g3])) _ |>.hi (d1 r4 (by simp [g4])) _).hi (d1 r5 (by simp [g5])) _) ⟨?_, rfl⟩
      have hf : openP q o = none := by
        unfold openP
        rw [List.find?_eq_none]
        intro p hp
        have : p ∈ (clp 0 q).take (cl 0 q).length := by rw [cl, List.length_map, List.take_length]; exact hp
        rw [hn p this]; simp
      simp [openD, hm, hf]
    · rintro c X d1 ⟨rfl, p, hp, k3, k4, k5⟩
      have o3 := over_x (Hi := H) k3
      have o4 := over_x (Hi := H) k4
      have o5 := over_x (Hi := H) k5
      simp (disch := omega) only [go_sem, Nat.reduceEqDiff, Nat.reduceAdd, Nat.reduceMul, Nat.reduceSub, Nat.reduceLeDiff, ↓reduceIte, reduceCtorEq, Int.toNat_natCast, Int.sub_zero, Int.zero_add, Int.add_zero, Int.reduceAdd, Int.reduceSub, Int.reduceMul, Int.reduceNeg, Int.reduceToNat, Nat.add_sub_cancel, List.reduceReplicate, wrap64_id, List.length_cons, List.length_nil, List.all_cons, List.all_nil, Bool.and_true, Bool.true_and, Bool.or_false, Bool.false_or, List.take_succ_cons, List.take_zero, List.drop_succ_cons, List.drop_zero, decide_true, decide_false, Nat.mul_one, Nat.one_mul, Nat.zero_add, Nat.add_zero, Nat.mul_zero, Nat.zero_mul, Bool.not_true, Bool.not_false, Option.map_some, Option.map_none, Nat.le_refl, Nat.zero_lt_succ, ne_eq, not_true_eq_false, not_false_eq_true, Option.isSome_some, and_of, dec_true, dec_false, true_imp_iff, false_imp_iff, beq_self_eq_true, forall_const, getElem_map, List.length_map, dIs, dIss, DJump, o3, o4, o5]
      refine DFin.over d1 ⟨?_, rfl⟩
      simp [openD, hm, hp]

def newD (n : Int) : DVal := if 0 ≤ n ∧ n ≤ 8 then .tuple [dIss (List.replicate n.toNat []), dI 0] else .tuple [.nilSlice, dI 4]
theorem new_spec (G : Nat → DVal) (n : Int) (H : DHeap) : DCalls Try.prog G 19 [dI n] H (DRet (newD n) H) := by
  refine dcalls_intro Try.func19 Try.call19 rfl (by kernel_rfl) ?_
  by_cases c1 : n < 0
  · simp (disch := omega) only [go_sem, Nat.reduceEqDiff, Nat.reduceAdd, Nat.reduceMul, Nat.reduceSub, Nat.reduceLeDiff, ↓reduceIte, reduceCtorEq, Int.toNat_natCast, Int.sub_zero, Int.zero_add, Int.add_zero, Int.reduceAdd, Int.reduceSub, Int.reduceMul, Int.reduceNeg, Int.reduceToNat, Nat.add_sub_cancel, List.reduceReplicate, wrap64_id, List.length_cons, List.length_nil, List.all_cons, List.all_nil, Bool.and_true, Bool.true_and, Bool.or_false, Bool.false_or, List.take_succ_cons, List.take_zero, List.drop_succ_cons, List.drop_zero, decide_true, decide_false, Nat.mul_one, Nat.one_mul, Nat.zero_add, Nat.add_zero, Nat.mul_zero, Nat.zero_mul, Bool.not_true, Bool.not_false, Option.map_some, Option.map_none, Nat.le_refl, Nat.zero_lt_succ, ne_eq, not_true_eq_false, not_false_eq_true, Option.isSome_some, and_of, dec_true, dec_false, true_imp_iff, false_imp_iff, beq_self_eq_true, forall_const, getElem_map, List.length_map, dIs, dIss]
    exact DFin.refl ⟨by rw [newD, if_neg (by omega)], rfl⟩
  by_cases c2 : n > 8
  · simp (disch := omega) only [go_sem, Nat.reduceEqDiff, Nat.reduceAdd, Nat.reduceMul, Nat.reduceSub, Nat.reduceLeDiff, ↓reduceIte, reduceCtorEq, Int.toNat_natCast, Int.sub_zero, Int.zero_add, Int.add_zero, Int.reduceAdd, Int.reduceSub, Int.reduceMul, Int.reduceNeg, Int.reduceToNat, Nat.add_sub_cancel, List.reduceReplicate, wrap64_id, List.length_cons, List.length_nil, List.all_cons, List.all_nil, Bool.and_true, Bool.true_and, Bool.or_false, Bool.false_or, List.take_succ_cons, List.take_zero, List.drop_succ_cons, List.drop_zero, decide_true, decide_false, Nat.mul_one, Nat.one_mul, Nat.zero_add, Nat.add_zero, Nat.mul_zero, Nat.zero_mul, Bool.not_true, Bool.not_false, Option.map_some, Option.map_none, Nat.le_refl, Nat.zero_lt_succ, ne_eq, not_true_eq_false, not_false_eq_true, Option.isSome_some, and_of, dec_true, dec_false, true_imp_iff, false_imp_iff, beq_self_eq_true, forall_const, getElem_map, List.length_map, dIs, dIss]
    exact DFin.refl ⟨by rw [newD, if_neg (by omega)], rfl⟩
  · simp (disch := omega) only [go_sem, Nat.reduceEqDiff, Nat.reduceAdd, Nat.reduceMul, Nat.reduceSub, Nat.reduceLeDiff, ↓reduceIte, reduceCtorEq, Int.toNat_natCast, Int.sub_zero, Int.zero_add, Int.add_zero, Int.reduceAdd, Int.reduceSub, Int.reduceMul, Int.reduceNeg, Int.reduceToNat, Nat.add_sub_cancel, List.reduceReplicate, wrap64_id, List.length_cons, List.length_nil, List.all_cons, List.all_nil, Bool.and_true, Bool.true_and, Bool.or_false, Bool.false_or, List.take_succ_cons, List.take_zero, List.drop_succ_cons, List.drop_zero, decide_true, decide_false, Nat.mul_one, Nat.one_mul, Nat.zero_add, Nat.add_zero, Nat.mul_zero, Nat.zero_mul, Bool.not_true, Bool.not_false, Option.map_some, Option.map_none, Nat.le_refl, Nat.zero_lt_succ, ne_eq, not_true_eq_false, not_false_eq_true, Option.isSome_some, and_of, dec_true, dec_false, true_imp_iff, false_imp_iff, beq_self_eq_true, forall_const, getElem_map, List.length_map, dIs, dIss]
    intro r hr; dsimp only at hr
    simp (disch := omega) only [go_sem, Nat.reduceEqDiff, Nat.reduceAdd, Nat.reduceMul, Nat.reduceSub, Nat.reduceLeDiff, ↓reduceIte, reduceCtorEq, Int.toNat_natCast, Int.sub_zero, Int.zero_add, Int.add_zero, Int.reduceAdd, Int.reduceSub, Int.reduceMul, Int.reduceNeg, Int.reduceToNat, Nat.add_sub_cancel, List.reduceReplicate, wrap64_id, List.length_cons, List.length_nil, List.all_cons, List.all_nil, Bool.and_true, Bool.true_and, Bool.or_false, Bool.false_or, List.take_succ_cons, List.take_zero, List.drop_succ_cons, List.drop_zero, decide_true, decide_false, Nat.mul_one, Nat.one_mul, Nat.zero_add, Nat.add_zero, Nat.mul_zero, Nat.zero_mul, Bool.not_true, Bool.not_false, Option.map_some, Option.map_none, Nat.le_refl, Nat.zero_lt_succ, ne_eq, not_true_eq_false, not_false_eq_true, Option.isSome_some, and_of, dec_true, dec_false, true_imp_iff, false_imp_iff, beq_self_eq_true, forall_const, getElem_map, List.length_map, dIs, dIss]
    refine DFin.fz r (upd_same _ _ _) ?_
    have hn : fzs r [] (List.replicate n.toNat DVal.nilSlice) = List.replicate n.toNat DVal.nilSlice := by
      induction n.toNat with
      | zero => simp [fzs]
      | succ k ih => simp [List.replicate_succ, fzs, ih, fz]
    have ht : (List.replicate n.toNat DVal.nilSlice).take n.toNat = List.replicate n.toNat DVal.nilSlice := by simp
    simp (disch := omega) only [go_sem, Nat.reduceEqDiff, Nat.reduceAdd, Nat.reduceMul, Nat.reduceSub, Nat.reduceLeDiff, ↓reduceIte, reduceCtorEq, Int.toNat_natCast, Int.sub_zero, Int.zero_add, Int.add_zero, Int.reduceAdd, Int.reduceSub, Int.reduceMul, Int.reduceNeg, Int.reduceToNat, Nat.add_sub_cancel, List.reduceReplicate, wrap64_id, List.length_cons, List.length_nil, List.all_cons, List.all_nil, Bool.and_true, Bool.true_and, Bool.or_false, Bool.false_or, List.take_succ_cons, List.take_zero, List.drop_succ_cons, List.drop_zero, decide_true, decide_false, Nat.mul_one, Nat.one_mul, Nat.zero_add, Nat.add_zero, Nat.mul_zero, Nat.zero_mul, Bool.not_true, Bool.not_false, Option.map_some, Option.map_none, Nat.le_refl, Nat.zero_lt_succ, ne_eq, not_true_eq_false, not_false_eq_true, Option.isSome_some, and_of, dec_true, dec_false, true_imp_iff, false_imp_iff, beq_self_eq_true, forall_const, getElem_map, List.length_map, dIs, dIss, upd_undo hr, ht]
    refine DFin.le (DLe.tuple (.cons (DLe.vslice _ (DLes.nils _)) (.refl _))) (DFin.refl ⟨?_, rfl⟩)
    rw [newD, if_pos (by omega), dIss, List.map_replicate, List.length_replicate]
    rfl
end Go.Dl
