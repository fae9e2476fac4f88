/- The reference of chapter 31: place, May, Copy, Find, Counts. -/
import Derived.Test.YtimnmempnhjbfaaE8
set_option linter.unusedSimpArgs false
set_option linter.unusedVariables false
namespace Go.Dl
open Go Go.Proofs
set_option maxRecDepth 10000

theorem pl1_eq (t e : Int) (l : List Int) : ∀ (i n en at' : Int), 0 ≤ n → pl1 t e l i (n, en, at') = (n + (l.count t : Nat), if n = 0 then (match l.findIdx? (· = t) with | some j => (e, i + (j : Int)) | none => (en, at')) else (en, at')) := by
  induction l with
  | nil => intro i n en at' hn; simp [pl1]
  | cons x xs ih =>
    intro i n en at' hn
    simp only [pl1]
    by_cases hx : x = t
    · rw [if_pos hx, ih _ _ _ _ (by omega), if_neg (by omega)]
      subst hx
      simp only [List.count_cons_self, List.findIdx?_cons, decide_true, if_true]
      simp; omega
    · rw [if_neg hx, ih _ _ _ _ hn]
      rw [List.count_cons_of_ne (by simpa using hx), List.findIdx?_cons]
      simp only [hx, decide_false]
      cases hf : xs.findIdx? (fun x => decide (x = t)) with
      | none => simp
      | some j =>
        simp only [Option.map_some]
        have : i + 1 + (j : Int) = i + ((j + 1 : Nat) : Int) := by omega
        rw [this]; simp

/-- Where a task is first. -/
def placeE (q : List (List Int)) (t : Int) : Int × Int := match findP q t with | some p => ((p.1 : Int), idx (q.getD p.1 []) t) | none => (0, 0)

theorem pl2_eq (t : Int) (q : List (List Int)) : ∀ (s : Nat) (n en at' : Int), 0 ≤ n → pl2 t q s (n, en, at') = (n + (q.flatten.count t : Nat), if n = 0 then (match (clp s q).find? (fun p => p.2 = t) with | some p => ((p.1 : Int), idx (q.getD (p.1 - s) []) t) | none => (en, at')) else (en, at')) := by
  induction q with
  | nil => intro s n en at' hn; simp [pl2, clp]
  | cons l q ih =>
    intro s n en at' hn
    simp only [pl2]
    rw [pl1_eq _ _ _ _ _ _ _ hn]
    have hc : ((s : Int) + 1) = ((s + 1 : Nat) : Int) := by omega
    rw [hc]
    generalize hz : (if n = 0 then (match l.findIdx? (· = t) with | some j => ((s : Int), 0 + (j : Int)) | none => (en, at')) else (en, at')) = z
    obtain ⟨z1, z2⟩ := z
    rw [ih (s + 1) _ _ _ (by omega)]
    simp only [List.flatten_cons, List.count_append, clp, List.find?_append]
    by_cases hn0 : n = 0
    · subst hn0
      by_cases hm : t ∈ l
      · have h1 : l.count t ≠ 0 := by rw [Ne, List.count_eq_zero]; exact fun h => h hm
        have h2 : (l.map (fun t => (s, t))).find? (fun p => p.2 = t) = some (s, t) := by
          rw [List.find?_map]
          simp only [Function.comp_def]
          obtain ⟨y, hy⟩ := Option.isSome_iff_exists.1 (show (l.find? (fun x => decide (x = t))).isSome from by rw [List.find?_isSome]; exact ⟨t, hm, by simp⟩)
          rw [hy]
          have := List.find?_some hy
          simp at this; subst this; rfl
        rw [if_neg (by omega), h2]
        simp only [Option.some_or, Nat.sub_self, List.getD_cons_zero, if_true]
        rw [if_pos rfl] at hz
        unfold idx
        cases hf : l.findIdx? (fun x => decide (x = t)) with
        | none => exact absurd (List.findIdx?_eq_none_iff.1 hf t hm) (by simp)
        | some j =>
          rw [hf] at hz; simp at hz
          obtain ⟨rfl, rfl⟩ := hz
          simp
      · have h1 : l.count t = 0 := List.count_eq_zero.2 hm
        have h2 : (l.map (fun t => (s, t))).find? (fun p => p.2 = t) = none := by
          rw [List.find?_eq_none]
          intro p hp
          simp only [List.mem_map] at hp
          obtain ⟨u, hu, rfl⟩ := hp
          simp; intro e; subst e; exact hm hu
        have h3 : l.findIdx? (fun x => decide (x = t)) = none := by
          rw [List.findIdx?_eq_none_iff]; intro x hx; simp; intro e; subst e; exact hm hx
        rw [if_pos rfl, h3] at hz
        simp at hz
        obtain ⟨rfl, rfl⟩ := hz
        rw [h1, if_pos (by simp), h2]
        simp only [Option.none_or, if_true]
        cases hf : (clp (s + 1) q).find? (fun p => decide (p.2 = t)) with
        | none => simp
        | some p =>
          obtain ⟨_, h4, _⟩ := clp_mem (List.mem_of_find?_eq_some hf)
          have h5 : p.1 - s = (p.1 - (s + 1)) + 1 := by omega
          have h6 : (l :: q).getD (p.1 - s) [] = q.getD (p.1 - (s + 1)) [] := by rw [h5]; simp
          simp only [h6]
          simp
    · rw [if_neg hn0] at hz
      cases hz
      rw [if_neg (by omega), if_neg hn0]
      simp; omega

theorem place_spec' (G : Nat → DVal) (q : List (List Int)) (t : Int) (H : DHeap) (hq : q.length ≤ 1099511627776) (hb : q.flatten.length ≤ 1099511627776) (hl : ∀ l ∈ q, l.length ≤ 1099511627776) :
    DCalls Try.prog G 65 [dIss q, dI t] H (DRet (.tuple [dI (q.flatten.count t : Nat), dI (placeE q t).1, dI (placeE q t).2]) H) := by
  have h := place_spec G q t H hq (by simpa [tot] using hb) hl
  have e : pl2 t q 0 (0, 0, 0) = (((q.flatten.count t : Nat) : Int), placeE q t) := by
    have := pl2_eq t q 0 0 0 0 (by omega)
    rw [if_pos rfl] at this
    simp only [Int.zero_add, Nat.sub_zero, Int.natCast_zero] at this
    rw [this]; rfl
  rw [e] at h
  exact h

/-- How many of l lie below m. -/
def cntTo (l : List Int) (m : Nat) : Nat := l.countP (fun x => decide (0 ≤ x ∧ x < (m : Int)))
theorem cntTo_succ (l : List Int) (m : Nat) : cntTo l (m + 1) = cntTo l m + l.count (m : Int) := by
  induction l with
  | nil => simp [cntTo]
  | cons x xs ih =>
    simp only [cntTo, List.countP_cons, List.count_cons] at ih ⊢
    rw [ih]
    by_cases h1 : x = (m : Int)
    · subst h1
      have e1 : decide ((0 : Int) ≤ (m : Int) ∧ (m : Int) < ((m + 1 : Nat) : Int)) = true := by simp; omega
      have e2 : decide ((0 : Int) ≤ (m : Int) ∧ (m : Int) < ((m : Nat) : Int)) = false := by simp
      rw [e1, e2]; simp; omega
    · have h2 : (x == (m : Int)) = false := by simpa using h1
      rw [h2]
      have e1 : decide ((0 : Int) ≤ x ∧ x < ((m + 1 : Nat) : Int)) = decide ((0 : Int) ≤ x ∧ x < ((m : Nat) : Int)) := by
        apply decide_eq_decide.2; omega
      rw [e1]; simp; omega

theorem mayQ_iff (q : List (List Int)) : mayQ q = true ↔ q.length ≤ 8 ∧ cntTo q.flatten 32 = q.flatten.length ∧ ∀ i : Nat, i < 32 → q.flatten.count (i : Int) ≤ 1 := by
  simp only [mayQ, Bool.and_eq_true, decide_eq_true_eq, List.all_eq_true, cntTo, List.countP_eq_length, List.nodup_iff_count]
  constructor
  · rintro ⟨⟨h1, h2⟩, h3⟩
    exact ⟨h1, fun x hx => by simpa using h2 x hx, fun i _ => h3 i⟩
  · rintro ⟨h1, h2, h3⟩
    refine ⟨⟨h1, fun x hx => by simpa using h2 x hx⟩, fun x => ?_⟩
    by_cases hx : x ∈ q.flatten
    · have := h2 x hx
      obtain ⟨i, rfl⟩ : ∃ i : Nat, x = i := ⟨x.toNat, by omega⟩
      exact h3 i (by omega)
    · rw [List.count_eq_zero.2 hx]; omega

theorem rmay_spec (G : Nat → DVal) (q : List (List Int)) (H : DHeap) (hq : q.length ≤ 1099511627776) (hb : q.flatten.length ≤ 1099511627776) (hl : ∀ l ∈ q, l.length ≤ 1099511627776) : DCalls Try.prog G 28 [dIss q] H (DRet (.bool (mayQ q)) H) := by
  refine dcalls_intro Try.func28 Try.call28 rfl (by kernel_rfl) ?_
  simp (disch := omega) only [go_sem, Nat.reduceEqDiff, Nat.reduceAdd, Nat.reduceMul, Nat.reduceSub, Nat.reduceLeDiff, ↓reduceIte, reduceCtorEq, Int.toNat_natCast, Int.sub_zero, Int.zero_add, Int.add_zero, Int.reduceAdd, Int.reduceSub, Int.reduceMul, Int.reduceNeg, Int.reduceToNat, Nat.add_sub_cancel, List.reduceReplicate, wrap64_id, List.length_cons, List.length_nil, List.all_cons, List.all_nil, Bool.and_true, Bool.true_and, Bool.or_false, Bool.false_or, List.take_succ_cons, List.take_zero, List.drop_succ_cons, List.drop_zero, decide_true, decide_false, Nat.mul_one, Nat.one_mul, Nat.zero_add, Nat.add_zero, Nat.mul_zero, Nat.zero_mul, Bool.not_true, Bool.not_false, Option.map_some, Option.map_none, Nat.le_refl, Nat.zero_lt_succ, ne_eq, not_true_eq_false, not_false_eq_true, Option.isSome_some, and_of, dec_true, dec_false, true_imp_iff, false_imp_iff, beq_self_eq_true, forall_const, getElem_map, List.length_map, dIs, dIss]
  obtain ⟨I, hI⟩ : ∃ I : Nat → (Nat → DVal) → DHeap → Prop, ∀ k env heap, I k env heap ↔ (H = heap ∧ env 0 = dIss q ∧ env 3 = dI (cntTo q.flatten k) ∧ env 4 = dI k ∧ k ≤ 32 ∧ ∀ i : Nat, i < k → q.flatten.count (i : Int) ≤ 1) := ⟨_, fun _ _ _ => Iff.rfl⟩
  refine DLoop.run I (fun k => 32 - k) 0 ((hI _ _ _).2 ?_) ?_
  · simp (disch := omega) only [go_sem, Nat.reduceEqDiff, Nat.reduceAdd, Nat.reduceMul, Nat.reduceSub, Nat.reduceLeDiff, ↓reduceIte, reduceCtorEq, Int.toNat_natCast, Int.sub_zero, Int.zero_add, Int.add_zero, Int.reduceAdd, Int.reduceSub, Int.reduceMul, Int.reduceNeg, Int.reduceToNat, Nat.add_sub_cancel, List.reduceReplicate, wrap64_id, List.length_cons, List.length_nil, List.all_cons, List.all_nil, Bool.and_true, Bool.true_and, Bool.or_false, Bool.false_or, List.take_succ_cons, List.take_zero, List.drop_succ_cons, List.drop_zero, decide_true, decide_false, Nat.mul_one, Nat.one_mul, Nat.zero_add, Nat.add_zero, Nat.mul_zero, Nat.zero_mul, Bool.not_true, Bool.not_false, Option.map_some, Option.map_none, Nat.le_refl, Nat.zero_lt_succ, ne_eq, not_true_eq_false, not_false_eq_true, Option.isSome_some, and_of, dec_true, dec_false, true_imp_iff, false_imp_iff, beq_self_eq_true, forall_const, getElem_map, List.length_map, dIs, dIss]
    (repeat' apply And.intro) <;> (try first | rfl | assumption | omega)
    have : cntTo q.flatten 0 = 0 := by unfold cntTo; rw [List.countP_eq_zero]; intro x _; simp
    rw [this]; rfl
  · intro k env heap hk
    obtain ⟨rfl, h0, h3, h4, hk, hn⟩ := (hI _ _ _).1 hk
    have hcb : cntTo q.flatten k ≤ 1099511627776 := Nat.le_trans List.countP_le_length hb
    by_cases hlt : k < 32
    · have hcc : q.flatten.count (k : Int) ≤ 1099511627776 := Nat.le_trans List.count_le_length hb
      simp (disch := omega) only [go_sem, Nat.reduceEqDiff, Nat.reduceAdd, Nat.reduceMul, Nat.reduceSub, Nat.reduceLeDiff, ↓reduceIte, reduceCtorEq, Int.toNat_natCast, Int.sub_zero, Int.zero_add, Int.add_zero, Int.reduceAdd, Int.reduceSub, Int.reduceMul, Int.reduceNeg, Int.reduceToNat, Nat.add_sub_cancel, List.reduceReplicate, wrap64_id, List.length_cons, List.length_nil, List.all_cons, List.all_nil, Bool.and_true, Bool.true_and, Bool.or_false, Bool.false_or, List.take_succ_cons, List.take_zero, List.drop_succ_cons, List.drop_zero, decide_true, decide_false, Nat.mul_one, Nat.one_mul, Nat.zero_add, Nat.add_zero, Nat.mul_zero, Nat.zero_mul, Bool.not_true, Bool.not_false, Option.map_some, Option.map_none, Nat.le_refl, Nat.zero_lt_succ, ne_eq, not_true_eq_false, not_false_eq_true, Option.isSome_some, and_of, dec_true, dec_false, true_imp_iff, false_imp_iff, beq_self_eq_true, forall_const, getElem_map, List.length_map, dIs, dIss, h0, h3, h4]
      refine (place_spec' G q k _ hq hb hl).mono ?_
      rintro _ _ ⟨rfl, rfl⟩
      by_cases hc : q.flatten.count (k : Int) ≤ 1
      · simp (disch := omega) only [go_sem, Nat.reduceEqDiff, Nat.reduceAdd, Nat.reduceMul, Nat.reduceSub, Nat.reduceLeDiff, ↓reduceIte, reduceCtorEq, Int.toNat_natCast, Int.sub_zero, Int.zero_add, Int.add_zero, Int.reduceAdd, Int.reduceSub, Int.reduceMul, Int.reduceNeg, Int.reduceToNat, Nat.add_sub_cancel, List.reduceReplicate, wrap64_id, List.length_cons, List.length_nil, List.all_cons, List.all_nil, Bool.and_true, Bool.true_and, Bool.or_false, Bool.false_or, List.take_succ_cons, List.take_zero, List.drop_succ_cons, List.drop_zero, decide_true, decide_false, Nat.mul_one, Nat.one_mul, Nat.zero_add, Nat.add_zero, Nat.mul_zero, Nat.zero_mul, Bool.not_true, Bool.not_false, Option.map_some, Option.map_none, Nat.le_refl, Nat.zero_lt_succ, ne_eq, not_true_eq_false, not_false_eq_true, Option.isSome_some, and_of, dec_true, dec_false, true_imp_iff, false_imp_iff, beq_self_eq_true, forall_const, getElem_map, List.length_map, dIs, dIss, h0, h3, h4]
        refine ⟨k + 1, _, GhostS.refl _, (hI _ _ _).2 ?_, by omega⟩
        simp (disch := omega) only [go_sem, Nat.reduceEqDiff, Nat.reduceAdd, Nat.reduceMul, Nat.reduceSub, Nat.reduceLeDiff, ↓reduceIte, reduceCtorEq, Int.toNat_natCast, Int.sub_zero, Int.zero_add, Int.add_zero, Int.reduceAdd, Int.reduceSub, Int.reduceMul, Int.reduceNeg, Int.reduceToNat, Nat.add_sub_cancel, List.reduceReplicate, wrap64_id, List.length_cons, List.length_nil, List.all_cons, List.all_nil, Bool.and_true, Bool.true_and, Bool.or_false, Bool.false_or, List.take_succ_cons, List.take_zero, List.drop_succ_cons, List.drop_zero, decide_true, decide_false, Nat.mul_one, Nat.one_mul, Nat.zero_add, Nat.add_zero, Nat.mul_zero, Nat.zero_mul, Bool.not_true, Bool.not_false, Option.map_some, Option.map_none, Nat.le_refl, Nat.zero_lt_succ, ne_eq, not_true_eq_false, not_false_eq_true, Option.isSome_some, and_of, dec_true, dec_false, true_imp_iff, false_imp_iff, beq_self_eq_true, forall_const, getElem_map, List.length_map, dIs, dIss, h0, h3, h4]
        (repeat' apply And.intro) <;> (try first | rfl | assumption | omega)
        · rw [cntTo_succ]; simp
        · intro i hi
          by_cases e : i = k
          · subst e; exact hc
          · exact hn i (by omega)
      · simp (disch := omega) only [go_sem, Nat.reduceEqDiff, Nat.reduceAdd, Nat.reduceMul, Nat.reduceSub, Nat.reduceLeDiff, ↓reduceIte, reduceCtorEq, Int.toNat_natCast, Int.sub_zero, Int.zero_add, Int.add_zero, Int.reduceAdd, Int.reduceSub, Int.reduceMul, Int.reduceNeg, Int.reduceToNat, Nat.add_sub_cancel, List.reduceReplicate, wrap64_id, List.length_cons, List.length_nil, List.all_cons, List.all_nil, Bool.and_true, Bool.true_and, Bool.or_false, Bool.false_or, List.take_succ_cons, List.take_zero, List.drop_succ_cons, List.drop_zero, decide_true, decide_false, Nat.mul_one, Nat.one_mul, Nat.zero_add, Nat.add_zero, Nat.mul_zero, Nat.zero_mul, Bool.not_true, Bool.not_false, Option.map_some, Option.map_none, Nat.le_refl, Nat.zero_lt_succ, ne_eq, not_true_eq_false, not_false_eq_true, Option.isSome_some, and_of, dec_true, dec_false, true_imp_iff, false_imp_iff, beq_self_eq_true, forall_const, getElem_map, List.length_map, dIs, dIss, h0, h3, h4]
        refine DFin.refl ⟨?_, rfl⟩
        have : mayQ q = false := by
          rw [← Bool.not_eq_true, mayQ_iff]
          exact fun h => hc (h.2.2 k hlt)
        rw [this]
    · have hk32 : k = 32 := by omega
      subst hk32
      simp (disch := omega) only [go_sem, Nat.reduceEqDiff, Nat.reduceAdd, Nat.reduceMul, Nat.reduceSub, Nat.reduceLeDiff, ↓reduceIte, reduceCtorEq, Int.toNat_natCast, Int.sub_zero, Int.zero_add, Int.add_zero, Int.reduceAdd, Int.reduceSub, Int.reduceMul, Int.reduceNeg, Int.reduceToNat, Nat.add_sub_cancel, List.reduceReplicate, wrap64_id, List.length_cons, List.length_nil, List.all_cons, List.all_nil, Bool.and_true, Bool.true_and, Bool.or_false, Bool.false_or, List.take_succ_cons, List.take_zero, List.drop_succ_cons, List.drop_zero, decide_true, decide_false, Nat.mul_one, Nat.one_mul, Nat.zero_add, Nat.add_zero, Nat.mul_zero, Nat.zero_mul, Bool.not_true, Bool.not_false, Option.map_some, Option.map_none, Nat.le_refl, Nat.zero_lt_succ, ne_eq, not_true_eq_false, not_false_eq_true, Option.isSome_some, and_of, dec_true, dec_false, true_imp_iff, false_imp_iff, beq_self_eq_true, forall_const, getElem_map, List.length_map, dIs, dIss, h0, h3, h4]
      obtain ⟨J, hJ⟩ : ∃ J : Nat → (Nat → DVal) → DHeap → Prop, ∀ i env heap, J i env heap ↔ (H = heap ∧ env 0 = dIss q ∧ env 3 = dI (cntTo q.flatten 32) ∧ env 9 = dI i ∧ env 8 = dI (q.take i).flatten.length ∧ i ≤ q.length) := ⟨_, fun _ _ _ => Iff.rfl⟩
      refine DLoop.run J (fun i => q.length - i) 0 ((hJ _ _ _).2 ?_) ?_
      · simp (disch := omega) only [go_sem, Nat.reduceEqDiff, Nat.reduceAdd, Nat.reduceMul, Nat.reduceSub, Nat.reduceLeDiff, ↓reduceIte, reduceCtorEq, Int.toNat_natCast, Int.sub_zero, Int.zero_add, Int.add_zero, Int.reduceAdd, Int.reduceSub, Int.reduceMul, Int.reduceNeg, Int.reduceToNat, Nat.add_sub_cancel, List.reduceReplicate, wrap64_id, List.length_cons, List.length_nil, List.all_cons, List.all_nil, Bool.and_true, Bool.true_and, Bool.or_false, Bool.false_or, List.take_succ_cons, List.take_zero, List.drop_succ_cons, List.drop_zero, decide_true, decide_false, Nat.mul_one, Nat.one_mul, Nat.zero_add, Nat.add_zero, Nat.mul_zero, Nat.zero_mul, Bool.not_true, Bool.not_false, Option.map_some, Option.map_none, Nat.le_refl, Nat.zero_lt_succ, ne_eq, not_true_eq_false, not_false_eq_true, Option.isSome_some, and_of, dec_true, dec_false, true_imp_iff, false_imp_iff, beq_self_eq_true, forall_const, getElem_map, List.length_map, dIs, dIss, h0, h3]
        (repeat' apply And.intro) <;> (try first | rfl | assumption | omega)
      · intro i env heap hi
        obtain ⟨rfl, h0, h3, h9, h8, hi⟩ := (hJ _ _ _).1 hi
        by_cases hlt : i < q.length
        · have h1 := flat_take q i hlt
          have h2 := flat_take_le q (i + 1)
          rw [h1, List.length_append] at h2
          simp (disch := omega) only [go_sem, Nat.reduceEqDiff, Nat.reduceAdd, Nat.reduceMul, Nat.reduceSub, Nat.reduceLeDiff, ↓reduceIte, reduceCtorEq, Int.toNat_natCast, Int.sub_zero, Int.zero_add, Int.add_zero, Int.reduceAdd, Int.reduceSub, Int.reduceMul, Int.reduceNeg, Int.reduceToNat, Nat.add_sub_cancel, List.reduceReplicate, wrap64_id, List.length_cons, List.length_nil, List.all_cons, List.all_nil, Bool.and_true, Bool.true_and, Bool.or_false, Bool.false_or, List.take_succ_cons, List.take_zero, List.drop_succ_cons, List.drop_zero, decide_true, decide_false, Nat.mul_one, Nat.one_mul, Nat.zero_add, Nat.add_zero, Nat.mul_zero, Nat.zero_mul, Bool.not_true, Bool.not_false, Option.map_some, Option.map_none, Nat.le_refl, Nat.zero_lt_succ, ne_eq, not_true_eq_false, not_false_eq_true, Option.isSome_some, and_of, dec_true, dec_false, true_imp_iff, false_imp_iff, beq_self_eq_true, forall_const, getElem_map, List.length_map, dIs, dIss, h0, h3, h8, h9]
          refine ⟨i + 1, _, GhostS.refl _, (hJ _ _ _).2 ?_, by omega⟩
          simp (disch := omega) only [go_sem, Nat.reduceEqDiff, Nat.reduceAdd, Nat.reduceMul, Nat.reduceSub, Nat.reduceLeDiff, ↓reduceIte, reduceCtorEq, Int.toNat_natCast, Int.sub_zero, Int.zero_add, Int.add_zero, Int.reduceAdd, Int.reduceSub, Int.reduceMul, Int.reduceNeg, Int.reduceToNat, Nat.add_sub_cancel, List.reduceReplicate, wrap64_id, List.length_cons, List.length_nil, List.all_cons, List.all_nil, Bool.and_true, Bool.true_and, Bool.or_false, Bool.false_or, List.take_succ_cons, List.take_zero, List.drop_succ_cons, List.drop_zero, decide_true, decide_false, Nat.mul_one, Nat.one_mul, Nat.zero_add, Nat.add_zero, Nat.mul_zero, Nat.zero_mul, Bool.not_true, Bool.not_false, Option.map_some, Option.map_none, Nat.le_refl, Nat.zero_lt_succ, ne_eq, not_true_eq_false, not_false_eq_true, Option.isSome_some, and_of, dec_true, dec_false, true_imp_iff, false_imp_iff, beq_self_eq_true, forall_const, getElem_map, List.length_map, dIs, dIss, h0, h3, h8, h9]
          (repeat' apply And.intro) <;> (try first | rfl | assumption | omega)
          rw [h1, List.length_append, Int.natCast_add]
        · have hiq : i = q.length := by omega
          subst hiq
          rw [List.take_length] at h8
          have key : mayQ q = (decide (q.length ≤ 8) && decide (cntTo q.flatten 32 = q.flatten.length)) := by
            rw [Bool.eq_iff_iff, mayQ_iff]
            simp only [Bool.and_eq_true, decide_eq_true_eq]
            exact ⟨fun h => ⟨h.1, h.2.1⟩, fun h => ⟨h.1, h.2, fun i hi => hn i hi⟩⟩
          by_cases h8' : q.length ≤ 8
          · simp (disch := omega) only [go_sem, Nat.reduceEqDiff, Nat.reduceAdd, Nat.reduceMul, Nat.reduceSub, Nat.reduceLeDiff, ↓reduceIte, reduceCtorEq, Int.toNat_natCast, Int.sub_zero, Int.zero_add, Int.add_zero, Int.reduceAdd, Int.reduceSub, Int.reduceMul, Int.reduceNeg, Int.reduceToNat, Nat.add_sub_cancel, List.reduceReplicate, wrap64_id, List.length_cons, List.length_nil, List.all_cons, List.all_nil, Bool.and_true, Bool.true_and, Bool.or_false, Bool.false_or, List.take_succ_cons, List.take_zero, List.drop_succ_cons, List.drop_zero, decide_true, decide_false, Nat.mul_one, Nat.one_mul, Nat.zero_add, Nat.add_zero, Nat.mul_zero, Nat.zero_mul, Bool.not_true, Bool.not_false, Option.map_some, Option.map_none, Nat.le_refl, Nat.zero_lt_succ, ne_eq, not_true_eq_false, not_false_eq_true, Option.isSome_some, and_of, dec_true, dec_false, true_imp_iff, false_imp_iff, beq_self_eq_true, forall_const, getElem_map, List.length_map, dIs, dIss, h0, h3, h8, h9]
            refine DFin.refl ⟨?_, rfl⟩
            rw [key, decide_eq_true h8', Bool.true_and]
            congr 3; apply propext; omega
          · simp (disch := omega) only [go_sem, Nat.reduceEqDiff, Nat.reduceAdd, Nat.reduceMul, Nat.reduceSub, Nat.reduceLeDiff, ↓reduceIte, reduceCtorEq, Int.toNat_natCast, Int.sub_zero, Int.zero_add, Int.add_zero, Int.reduceAdd, Int.reduceSub, Int.reduceMul, Int.reduceNeg, Int.reduceToNat, Nat.add_sub_cancel, List.reduceReplicate, wrap64_id, List.length_cons, List.length_nil, List.all_cons, List.all_nil, Bool.and_true, Bool.true_and, Bool.or_false, Bool.false_or, List.take_succ_cons, List.take_zero, List.drop_succ_cons, List.drop_zero, decide_true, decide_false, Nat.mul_one, Nat.one_mul, Nat.zero_add, Nat.add_zero, Nat.mul_zero, Nat.zero_mul, Bool.not_true, Bool.not_false, Option.map_some, Option.map_none, Nat.le_refl, Nat.zero_lt_succ, ne_eq, not_true_eq_false, not_false_eq_true, Option.isSome_some, and_of, dec_true, dec_false, true_imp_iff, false_imp_iff, beq_self_eq_true, forall_const, getElem_map, List.length_map, dIs, dIss, h0, h3, h8, h9]
            refine DFin.refl ⟨?_, rfl⟩
            rw [key, decide_eq_false h8', Bool.false_and]
end Go.Dl
