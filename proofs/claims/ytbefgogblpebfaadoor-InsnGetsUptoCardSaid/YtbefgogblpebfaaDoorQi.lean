/- The data level and the contracts of the functions that are reached (part 9). -/
import Derived.Lib.SplitLaws
import Derived.Test.YtbefgogblpebfaaDoorQh
set_option linter.unusedSimpArgs false
set_option linter.unusedVariables false
-- Chapter 22: May, Runtime, Raises.
namespace Go.Dl
open Go Go.Proofs
set_option maxRecDepth 10000

theorem sub_over {H Hi X : DHeap} (h : Sub H Hi) (d : Disj Hi X) : Sub H (over Hi X) := fun r o hr => by
  have h1 := h r o hr
  rw [over_hi (d.x (by rw [h1]; simp)), h1]
theorem over22 (H : DHeap) {a b c d : Nat} (oa ob oc od : DObj) (h1 : c ≠ b) (h2 : d ≠ a) (h3 : b ≠ a) (h4 : d ≠ c) :
    upd (upd (upd (upd H a (some oa)) b (some ob)) c (some oc)) d (some od) = over (upd (upd H a (some oa)) c (some oc)) (upd (upd h0 b (some ob)) d (some od)) := by
  funext i
  simp only [upd, over, h0]
  by_cases e1 : i = d
  · simp [e1]
  · by_cases e2 : i = c
    · subst e2; simp [e1, h1]
    · by_cases e3 : i = b
      · subst e3; simp [e1, e2]
      · simp [e1, e2, e3]
theorem get_zero_take {fs : List (Int × Int × Int)} (hn : (fs.map (·.1)).Nodup) (hF : ∀ f ∈ fs, isF f.1 = true) {k : Nat} {p : Int × Int × Int} (h : fs[k]? = some p) (x : Insn) : getI (zeroI (fs.take k) x) p.1 = getI x p.1 := by
  obtain ⟨hk, hp⟩ := List.getElem?_eq_some_iff.1 h
  rw [get_zero (fs.take k) x p.1 (fun f hf => hF f (List.mem_of_mem_take hf)) (hF p (List.mem_of_getElem? h)), if_neg]
  intro hm
  rw [List.map_take, List.mem_take_iff_getElem] at hm
  obtain ⟨j, hj, he⟩ := hm
  have hkl : k < (fs.map (·.1)).length := by simpa using hk
  have : (fs.map (·.1))[j]'(by omega) = (fs.map (·.1))[k] := by rw [he]; simp [hp]
  have := (List.getElem_inj hn).1 this
  omega

theorem runtime_spec (G : Nat → DVal) (H : DHeap) (o : Int) (h0 : 0 ≤ o) (h1 : o < 256) : DCalls Tryd.prog G 38 [.int .u8 o] H (DRet (.bool (decide (42 ≤ o) && decide (o ≤ 57))) H) := by
  refine dcalls_intro Tryd.func38 Tryd.call38 rfl (by kernel_rfl) ?_
  by_cases c1 : 42 ≤ o
  · simp (disch := omega) only [go_sem, Nat.reduceEqDiff, Nat.reduceAdd, Nat.reduceMul, Nat.reduceSub, Nat.reduceLeDiff, ↓reduceIte, reduceCtorEq, Int.reduceAdd, Int.reduceSub, Int.reduceMul, Int.reduceNeg, Int.reduceToNat, List.reduceReplicate, String.reduceEq]
    exact DFin.refl ⟨by first | rfl | rw [decide_eq_decide.2 (show o < 58 ↔ o ≤ 57 by omega)], rfl⟩
  · simp (disch := omega) only [go_sem, Nat.reduceEqDiff, Nat.reduceAdd, Nat.reduceMul, Nat.reduceSub, Nat.reduceLeDiff, ↓reduceIte, reduceCtorEq, Int.reduceAdd, Int.reduceSub, Int.reduceMul, Int.reduceNeg, Int.reduceToNat, List.reduceReplicate, String.reduceEq]
    exact DFin.refl ⟨rfl, rfl⟩
theorem rruntime_spec (G : Nat → DVal) (H : DHeap) (o : Int) (h0 : 0 ≤ o) (h1 : o < 256) : DCalls Tryd.prog G 39 [.int .u8 o] H (DRet (.bool (decide (42 ≤ o) && decide (o ≤ 57))) H) := by
  refine dcalls_intro Tryd.func39 Tryd.call39 rfl (by kernel_rfl) ?_
  by_cases c1 : 42 ≤ o
  · simp (disch := omega) only [go_sem, Nat.reduceEqDiff, Nat.reduceAdd, Nat.reduceMul, Nat.reduceSub, Nat.reduceLeDiff, ↓reduceIte, reduceCtorEq, Int.reduceAdd, Int.reduceSub, Int.reduceMul, Int.reduceNeg, Int.reduceToNat, List.reduceReplicate, String.reduceEq]
    exact DFin.refl ⟨by first | rfl | rw [decide_eq_decide.2 (show o < 58 ↔ o ≤ 57 by omega)], rfl⟩
  · simp (disch := omega) only [go_sem, Nat.reduceEqDiff, Nat.reduceAdd, Nat.reduceMul, Nat.reduceSub, Nat.reduceLeDiff, ↓reduceIte, reduceCtorEq, Int.reduceAdd, Int.reduceSub, Int.reduceMul, Int.reduceNeg, Int.reduceToNat, List.reduceReplicate, String.reduceEq]
    exact DFin.refl ⟨rfl, rfl⟩
set_option maxHeartbeats 4000000 in
theorem mayI_spec {G : Nat → DVal} (hG : GI G) (H : DHeap) (x : Insn) (p0 : 0 ≤ x.op) (p1 : x.op < 256) : DCalls Tryd.prog G 33 [.agg (dInsn x)] H (DRet (.bool (mayI x)) H) := by
  obtain ⟨hfl, hnd, hfok⟩ := fieldsI_ok x.op
  have hx0 : (dInsn x)[0]? = some (.int .u8 x.op) := rfl
  have hx4 : (dInsn x)[4]? = some (dI x.n) := rfl
  have hx5 : (dInsn x)[5]? = some (dI x.m) := rfl
  have hdt : (dInsn x).take 7 = dInsn x := rfl
  have hda : (dInsn x).all (fun d => d.one) = true := rfl
  have hw6 : IntKind.u8.wrap x.n = x.n % 256 := IntKind.wrap_u8 _
  refine dcalls_intro Tryd.func33 Tryd.call33 rfl (by kernel_rfl) ?_
  simp (disch := omega) only [go_sem, Nat.reduceEqDiff, Nat.reduceAdd, Nat.reduceMul, Nat.reduceSub, Nat.reduceLeDiff, ↓reduceIte, reduceCtorEq, Int.reduceAdd, Int.reduceSub, Int.reduceMul, Int.reduceNeg, Int.reduceToNat, List.reduceReplicate, String.reduceEq, DVal.cells]
  intro r1 hr1; dsimp only at hr1
  simp (disch := omega) only [go_sem, Nat.reduceEqDiff, Nat.reduceAdd, Nat.reduceMul, Nat.reduceSub, Nat.reduceLeDiff, ↓reduceIte, reduceCtorEq, Int.reduceAdd, Int.reduceSub, Int.reduceMul, Int.reduceNeg, Int.reduceToNat, List.reduceReplicate, String.reduceEq]
  intro r2 hr2; dsimp only at hr2
  obtain ⟨m2, m1, hr2'⟩ := upd_eq_none.1 hr2
  simp (disch := omega) only [go_sem, Nat.reduceEqDiff, Nat.reduceAdd, Nat.reduceMul, Nat.reduceSub, Nat.reduceLeDiff, ↓reduceIte, reduceCtorEq, Int.reduceAdd, Int.reduceSub, Int.reduceMul, Int.reduceNeg, Int.reduceToNat, List.reduceReplicate, String.reduceEq, hx0, m1, m2]
  refine (find_spec hG.rows _ x.op p0 p1).mono ?_
  rintro _ H1 ⟨rfl, rfl⟩
  simp (disch := omega) only [go_sem, Nat.reduceEqDiff, Nat.reduceAdd, Nat.reduceMul, Nat.reduceSub, Nat.reduceLeDiff, ↓reduceIte, reduceCtorEq, Int.reduceAdd, Int.reduceSub, Int.reduceMul, Int.reduceNeg, Int.reduceToNat, List.reduceReplicate, String.reduceEq, dRow, DVal.cells]
  intro r3 hr3; dsimp only at hr3
  obtain ⟨m4, m3, hr3a⟩ := upd_eq_none.1 hr3
  obtain ⟨m6, m5, hr3'⟩ := upd_eq_none.1 hr3a
  cases ho : isO x.op with
  | false =>
    simp (disch := omega) only [go_sem, Nat.reduceEqDiff, Nat.reduceAdd, Nat.reduceMul, Nat.reduceSub, Nat.reduceLeDiff, ↓reduceIte, reduceCtorEq, Int.reduceAdd, Int.reduceSub, Int.reduceMul, Int.reduceNeg, Int.reduceToNat, List.reduceReplicate, String.reduceEq, m1, m2, m3, m4, m5, m6]
    refine DFin.sub (show Sub H _ from (by repeat (first | exact Sub.refl _ | assumption | refine Sub.up ?_ (by assumption) _))) (DFin.refl ⟨?_, rfl⟩)
    have : mayI x = false := by
      cases hm : mayI x with
      | false => rfl
      | true => have := mayI_at hm; simp [isO] at ho; omega
    rw [this]
  | true =>
    have hop : 1 ≤ x.op ∧ x.op ≤ 57 := by simpa [isO] using ho
    have hmv : mayI x = (inI (fieldsI x.op) x && decide (zeroI (fieldsI x.op) x = op0 x.op) && (decide (x.op ≠ 27) || decide (x.n ≤ x.m)) && (decide (x.op ≠ 37) || decide (x.n ≠ 6) || decide (x.m = 0))) := by
      rw [mayI, decide_eq_true hop.1, decide_eq_true hop.2]; simp only [Bool.true_and]
    by_cases c1 : x.op = 27 ∧ x.m < x.n
    · obtain ⟨c1, c2⟩ := c1
      simp (disch := omega) only [go_sem, Nat.reduceEqDiff, Nat.reduceAdd, Nat.reduceMul, Nat.reduceSub, Nat.reduceLeDiff, ↓reduceIte, reduceCtorEq, Int.reduceAdd, Int.reduceSub, Int.reduceMul, Int.reduceNeg, Int.reduceToNat, List.reduceReplicate, String.reduceEq, m1, m2, m3, m4, m5, m6, hx0, hx4, hx5, c1, c2]
      refine DFin.sub (show Sub H _ from (by repeat (first | exact Sub.refl _ | assumption | refine Sub.up ?_ (by assumption) _))) (DFin.refl ⟨?_, rfl⟩)
      rw [hmv]; simp [c1]; omega
    by_cases c3 : x.op = 37 ∧ x.n % 256 = 6 ∧ x.m ≠ 0
    · obtain ⟨c3, c4, c5⟩ := c3
      have c6 : ¬ x.op = 27 := by omega
      simp (disch := omega) only [go_sem, Nat.reduceEqDiff, Nat.reduceAdd, Nat.reduceMul, Nat.reduceSub, Nat.reduceLeDiff, ↓reduceIte, reduceCtorEq, Int.reduceAdd, Int.reduceSub, Int.reduceMul, Int.reduceNeg, Int.reduceToNat, List.reduceReplicate, String.reduceEq, m1, m2, m3, m4, m5, m6, hx0, hx4, hx5, c3, c4, c5, c6, hw6]
      refine DFin.sub (show Sub H _ from (by repeat (first | exact Sub.refl _ | assumption | refine Sub.up ?_ (by assumption) _))) (DFin.refl ⟨?_, rfl⟩)
      have hin : ¬ (6 ≤ x.n ∧ x.n ≤ 7) → inI (fieldsI x.op) x = false := fun h => by
        have hf : (fieldsI x.op)[0]? = some (78, 6, 7) := by rw [c3]; rfl
        exact inI_false hf (by simpa [getI] using h)
      rw [hmv]
      by_cases c7 : 6 ≤ x.n ∧ x.n ≤ 7
      · have : x.n = 6 := by omega
        simp [c3, this, c5]
      · rw [hin c7]; simp
    have hmd : inI (fieldsI x.op) x = true → mayI x = decide (zeroI (fieldsI x.op) x = op0 x.op) := fun h => by
      have t1 : (decide (x.op ≠ 27) || decide (x.n ≤ x.m)) = true := by
        simp only [Bool.or_eq_true, decide_eq_true_eq]
        by_cases h : x.op = 27
        · right
          by_cases h2 : x.n ≤ x.m
          · exact h2
          · exact absurd ⟨h, by omega⟩ c1
        · exact .inl h
      have t2 : (decide (x.op ≠ 37) || decide (x.n ≠ 6) || decide (x.m = 0)) = true := by
        simp only [Bool.or_eq_true, decide_eq_true_eq]
        by_cases h : x.op = 37
        · by_cases h2 : x.n = 6
          · right
            by_cases h3 : x.m = 0
            · exact h3
            · exact absurd ⟨h, by rw [h2]; rfl, h3⟩ c3
          · exact .inl (.inr h2)
        · exact .inl (.inl h)
      rw [hmv, h, t1, t2]; simp
    by_cases c6 : x.op = 27
    · have c7 : ¬ x.op = 37 := by omega
      have c8 : ¬ x.m < x.n := fun h => c1 ⟨c6, h⟩
      simp (disch := omega) only [go_sem, Nat.reduceEqDiff, Nat.reduceAdd, Nat.reduceMul, Nat.reduceSub, Nat.reduceLeDiff, ↓reduceIte, reduceCtorEq, Int.reduceAdd, Int.reduceSub, Int.reduceMul, Int.reduceNeg, Int.reduceToNat, List.reduceReplicate, String.reduceEq, m1, m2, m3, m4, m5, m6, hx0, hx4, hx5, hw6, hdt, dInsn_len, c6, c8]
      intro r5 hr5; dsimp only at hr5
      obtain ⟨q2, q1, hr5a⟩ := upd_eq_none.1 hr5
      obtain ⟨q4, q3, hr5b⟩ := upd_eq_none.1 hr5a
      obtain ⟨q6, q5, hr5'⟩ := upd_eq_none.1 hr5b
      simp (disch := omega) only [go_sem, Nat.reduceEqDiff, Nat.reduceAdd, Nat.reduceMul, Nat.reduceSub, Nat.reduceLeDiff, ↓reduceIte, reduceCtorEq, Int.reduceAdd, Int.reduceSub, Int.reduceMul, Int.reduceNeg, Int.reduceToNat, List.reduceReplicate, String.reduceEq, m1, m2, m3, m4, m5, m6, q1, q2, q3, q4, q5, q6, dInsn_len, hda, List.append_nil]
      refine (fieldsf_spec (G := G) r5).mono ?_
      rintro _ H1 ⟨rfl, rfl⟩
      simp (disch := omega) only [go_sem, Nat.reduceEqDiff, Nat.reduceAdd, Nat.reduceMul, Nat.reduceSub, Nat.reduceLeDiff, ↓reduceIte, reduceCtorEq, Int.reduceAdd, Int.reduceSub, Int.reduceMul, Int.reduceNeg, Int.reduceToNat, List.reduceReplicate, String.reduceEq]
      refine dwp_rangeX 87 [.vptr [.optr r5 0] 0] ((fieldsI x.op).map fun p => [dFieldV r5 p]) _ (upd (upd h0 r2 (some (.cells [.bool false] 4))) r5 (some (.cells (dInsn x) 53)))
        (fields_iter hG p0 p1 (by simp [upd])) rfl (by kernel_rfl) (by intro z hz; obtain ⟨p, _, rfl⟩ := List.mem_map.1 hz; rfl) (over22 H _ _ _ _ m4 q6 m2 q2) (((Disj.h0 _).hi (upd_eq_none.2 ⟨m3, m4, hr2⟩) _).hi (upd_eq_none.2 ⟨q2, q1, upd_eq_none.2 ⟨q6, q5, hr5'⟩⟩) _)
        (fun k X => X r2 = some (.cells [.bool false] 4) ∧ X r5 = some (.cells (dInsn (zeroI ((fieldsI x.op).take k) x)) 53) ∧ inI ((fieldsI x.op).take k) x = true)
        (fun c X => c = .ret ∧ X r2 = some (.cells [.bool false] 4) ∧ mayI x = false) ⟨by simp [upd, q3], by simp [upd]; rfl, rfl⟩ ?_ ?_ ?_
      · rintro k z Hi X hd hz ⟨hX2, hX5, hin⟩
        rw [List.getElem?_map, Option.map_eq_some_iff] at hz
        obtain ⟨p, hfk, rfl⟩ := hz
        have hpF := (hfok p (List.mem_of_getElem? hfk)).1
        have hgz := get_zero_take hnd (fun f hf => (hfok f hf).1) hfk x
        have hzt := zero_take hfk x
        simp (disch := omega) only [go_sem, Nat.reduceEqDiff, Nat.reduceAdd, Nat.reduceMul, Nat.reduceSub, Nat.reduceLeDiff, ↓reduceIte, reduceCtorEq, Int.reduceAdd, Int.reduceSub, Int.reduceMul, Int.reduceNeg, Int.reduceToNat, List.reduceReplicate, String.reduceEq, dFieldV, DVal.cells]
        intro r6 hr6; dsimp only at hr6
        obtain ⟨hH6, hX6⟩ := over_eq_none.1 hr6
        have n5 : ¬ r5 = r6 := fun e => by subst e; rw [hX5] at hX6; cases hX6
        have n2 : ¬ r2 = r6 := fun e => by subst e; rw [hX2] at hX6; cases hX6
        have h5 : ∀ o, over Hi (upd X r6 (some o)) r5 = some (.cells (dInsn (zeroI ((fieldsI x.op).take k) x)) 53) := fun o => by rw [over_upd, if_neg n5, over_x hX5]
        simp (disch := omega) only [go_sem, Nat.reduceEqDiff, Nat.reduceAdd, Nat.reduceMul, Nat.reduceSub, Nat.reduceLeDiff, ↓reduceIte, reduceCtorEq, Int.reduceAdd, Int.reduceSub, Int.reduceMul, Int.reduceNeg, Int.reduceToNat, List.reduceReplicate, String.reduceEq, n5, n2]
        refine (getF_spec (G := G) hpF (h5 _)).mono ?_
        rintro _ H2 ⟨rfl, rfl⟩
        rw [hgz]
        have h2X : over Hi X r2 = some (.cells [.bool false] 4) := over_x hX2
        have hdis : ∀ o o5, Disj Hi (upd (upd X r6 (some o)) r5 o5) := fun o o5 => (hd.hi hH6 _).st (r := r5) (by simp only [upd, if_neg n5]; exact hX5) _
        have hdis2 : ∀ o o2, Disj Hi (upd (upd X r6 (some o)) r2 o2) := fun o o2 => (hd.hi hH6 _).st (r := r2) (by simp only [upd, if_neg n2]; exact hX2) _
        have hmf : ¬ (p.2.1 ≤ getI x p.1 ∧ getI x p.1 ≤ p.2.2) → mayI x = false := fun h => by rw [hmv, inI_false hfk h]; simp
        by_cases d1 : getI x p.1 < p.2.1
        · simp (disch := omega) only [go_sem, Nat.reduceEqDiff, Nat.reduceAdd, Nat.reduceMul, Nat.reduceSub, Nat.reduceLeDiff, ↓reduceIte, reduceCtorEq, Int.reduceAdd, Int.reduceSub, Int.reduceMul, Int.reduceNeg, Int.reduceToNat, List.reduceReplicate, String.reduceEq, n5, n2, d1, h2X, List.length_cons, List.length_nil]
          refine ⟨_, rfl, hdis2 _ _, ?_, hmf (by omega)⟩
          rw [upd_same]
        by_cases d2 : p.2.2 < getI x p.1
        · simp (disch := omega) only [go_sem, Nat.reduceEqDiff, Nat.reduceAdd, Nat.reduceMul, Nat.reduceSub, Nat.reduceLeDiff, ↓reduceIte, reduceCtorEq, Int.reduceAdd, Int.reduceSub, Int.reduceMul, Int.reduceNeg, Int.reduceToNat, List.reduceReplicate, String.reduceEq, n5, n2, d1, d2, h2X, List.length_cons, List.length_nil]
          refine ⟨_, rfl, hdis2 _ _, ?_, hmf (by omega)⟩
          rw [upd_same]
        simp (disch := omega) only [go_sem, Nat.reduceEqDiff, Nat.reduceAdd, Nat.reduceMul, Nat.reduceSub, Nat.reduceLeDiff, ↓reduceIte, reduceCtorEq, Int.reduceAdd, Int.reduceSub, Int.reduceMul, Int.reduceNeg, Int.reduceToNat, List.reduceReplicate, String.reduceEq, n5, n2, d1, d2]
        refine (setF_spec (G := G) hpF 0 (h5 _)).mono ?_
        rintro _ H2 ⟨rfl, rfl⟩
        rw [← hzt]
        simp (disch := omega) only [go_sem, Nat.reduceEqDiff, Nat.reduceAdd, Nat.reduceMul, Nat.reduceSub, Nat.reduceLeDiff, ↓reduceIte, reduceCtorEq, Int.reduceAdd, Int.reduceSub, Int.reduceMul, Int.reduceNeg, Int.reduceToNat, List.reduceReplicate, String.reduceEq, n5, n2]
        refine ⟨_, rfl, hdis _ _, ?_, ?_, inI_take hfk hin (by omega)⟩
        · simp only [upd, if_neg q3, if_neg n2]; exact hX2
        · rw [upd_same]
      · rintro X hd ⟨hX2, hX5, hin⟩
        rw [List.length_map, List.take_length] at hX5 hin
        generalize hHi : upd (upd H r1 (some _)) r3 (some _) = Hi0 at hd ⊢
        have a1 : Hi0 r1 = some (.cells (dInsn x) 53) := by rw [← hHi]; simp [upd, m5]
        have hsubH : Sub H Hi0 := by rw [← hHi]; exact (by repeat (first | exact Sub.refl _ | assumption | refine Sub.up ?_ (by assumption) _))
        have hr5X : over Hi0 X r5 = some (.cells (dInsn (zeroI (fieldsI x.op) x)) 53) := over_x hX5
        have hr2X : over Hi0 X r2 = some (.cells [.bool false] 4) := over_x hX2
        have hr1X : over Hi0 X r1 = some (.cells (dInsn x) 53) := by rw [over_hi (hd.x (by rw [a1]; simp)), a1]
        have hdt5 : (dInsn (zeroI (fieldsI x.op) x)).take 7 = dInsn (zeroI (fieldsI x.op) x) := rfl
        have hz : [DVal.int IntKind.u8 x.op, DVal.int IntKind.i64 0, DVal.int IntKind.i64 0, DVal.int IntKind.i64 0, DVal.int IntKind.i64 0, DVal.int IntKind.i64 0, DVal.int IntKind.i64 0] = dInsn (op0 x.op) := rfl
        simp (disch := omega) only [go_sem, Nat.reduceEqDiff, Nat.reduceAdd, Nat.reduceMul, Nat.reduceSub, Nat.reduceLeDiff, ↓reduceIte, reduceCtorEq, Int.reduceAdd, Int.reduceSub, Int.reduceMul, Int.reduceNeg, Int.reduceToNat, List.reduceReplicate, String.reduceEq, hr5X, hr2X, hr1X, hdt5, hz, hx0, dInsn_len, agg_eq agg_insn guard_insn (eq_insn (zeroI (fieldsI x.op) x) (op0 x.op)), List.length_cons, List.length_nil]
        exact DFin.sub (sub_over hsubH (hd.st hX2 _)) (DFin.refl ⟨by rw [hmd hin], rfl⟩)
      · rintro c X hd ⟨rfl, hX2, hmm⟩
        generalize hHi : upd (upd H r1 (some _)) r3 (some _) = Hi0 at hd ⊢
        have hsubH : Sub H Hi0 := by rw [← hHi]; exact (by repeat (first | exact Sub.refl _ | assumption | refine Sub.up ?_ (by assumption) _))
        have hr2X : over Hi0 X r2 = some (.cells [.bool false] 4) := over_x hX2
        simp only [DJump]
        simp (disch := omega) only [go_sem, Nat.reduceEqDiff, Nat.reduceAdd, Nat.reduceMul, Nat.reduceSub, Nat.reduceLeDiff, ↓reduceIte, reduceCtorEq, Int.reduceAdd, Int.reduceSub, Int.reduceMul, Int.reduceNeg, Int.reduceToNat, List.reduceReplicate, String.reduceEq, hr2X, List.length_cons, List.length_nil]
        exact DFin.sub (sub_over hsubH hd) (DFin.refl ⟨by rw [hmm], rfl⟩)
    · by_cases c7 : x.op = 37
      · by_cases c8 : x.n % 256 = 6
        · have c9 : x.m = 0 := by
            by_cases h : x.m = 0
            · exact h
            · exact absurd ⟨c7, c8, h⟩ c3
          simp (disch := omega) only [go_sem, Nat.reduceEqDiff, Nat.reduceAdd, Nat.reduceMul, Nat.reduceSub, Nat.reduceLeDiff, ↓reduceIte, reduceCtorEq, Int.reduceAdd, Int.reduceSub, Int.reduceMul, Int.reduceNeg, Int.reduceToNat, List.reduceReplicate, String.reduceEq, m1, m2, m3, m4, m5, m6, hx0, hx4, hx5, hw6, hdt, dInsn_len, c6, c7, c8, c9]
          intro r5 hr5; dsimp only at hr5
          obtain ⟨q2, q1, hr5a⟩ := upd_eq_none.1 hr5
          obtain ⟨q4, q3, hr5b⟩ := upd_eq_none.1 hr5a
          obtain ⟨q6, q5, hr5'⟩ := upd_eq_none.1 hr5b
          simp (disch := omega) only [go_sem, Nat.reduceEqDiff, Nat.reduceAdd, Nat.reduceMul, Nat.reduceSub, Nat.reduceLeDiff, ↓reduceIte, reduceCtorEq, Int.reduceAdd, Int.reduceSub, Int.reduceMul, Int.reduceNeg, Int.reduceToNat, List.reduceReplicate, String.reduceEq, m1, m2, m3, m4, m5, m6, q1, q2, q3, q4, q5, q6, dInsn_len, hda, List.append_nil]
          refine (fieldsf_spec (G := G) r5).mono ?_
          rintro _ H1 ⟨rfl, rfl⟩
          simp (disch := omega) only [go_sem, Nat.reduceEqDiff, Nat.reduceAdd, Nat.reduceMul, Nat.reduceSub, Nat.reduceLeDiff, ↓reduceIte, reduceCtorEq, Int.reduceAdd, Int.reduceSub, Int.reduceMul, Int.reduceNeg, Int.reduceToNat, List.reduceReplicate, String.reduceEq]
          refine dwp_rangeX 87 [.vptr [.optr r5 0] 0] ((fieldsI x.op).map fun p => [dFieldV r5 p]) _ (upd (upd h0 r2 (some (.cells [.bool false] 4))) r5 (some (.cells (dInsn x) 53)))
            (fields_iter hG p0 p1 (by simp [upd])) rfl (by kernel_rfl) (by intro z hz; obtain ⟨p, _, rfl⟩ := List.mem_map.1 hz; rfl) (over22 H _ _ _ _ m4 q6 m2 q2) (((Disj.h0 _).hi (upd_eq_none.2 ⟨m3, m4, hr2⟩) _).hi (upd_eq_none.2 ⟨q2, q1, upd_eq_none.2 ⟨q6, q5, hr5'⟩⟩) _)
            (fun k X => X r2 = some (.cells [.bool false] 4) ∧ X r5 = some (.cells (dInsn (zeroI ((fieldsI x.op).take k) x)) 53) ∧ inI ((fieldsI x.op).take k) x = true)
            (fun c X => c = .ret ∧ X r2 = some (.cells [.bool false] 4) ∧ mayI x = false) ⟨by simp [upd, q3], by simp [upd]; rfl, rfl⟩ ?_ ?_ ?_
          · rintro k z Hi X hd hz ⟨hX2, hX5, hin⟩
            rw [List.getElem?_map, Option.map_eq_some_iff] at hz
            obtain ⟨p, hfk, rfl⟩ := hz
            have hpF := (hfok p (List.mem_of_getElem? hfk)).1
            have hgz := get_zero_take hnd (fun f hf => (hfok f hf).1) hfk x
            have hzt := zero_take hfk x
            simp (disch := omega) only [go_sem, Nat.reduceEqDiff, Nat.reduceAdd, Nat.reduceMul, Nat.reduceSub, Nat.reduceLeDiff, ↓reduceIte, reduceCtorEq, Int.reduceAdd, Int.reduceSub, Int.reduceMul, Int.reduceNeg, Int.reduceToNat, List.reduceReplicate, String.reduceEq, dFieldV, DVal.cells]
            intro r6 hr6; dsimp only at hr6
            obtain ⟨hH6, hX6⟩ := over_eq_none.1 hr6
            have n5 : ¬ r5 = r6 := fun e => by subst e; rw [hX5] at hX6; cases hX6
            have n2 : ¬ r2 = r6 := fun e => by subst e; rw [hX2] at hX6; cases hX6
            have h5 : ∀ o, over Hi (upd X r6 (some o)) r5 = some (.cells (dInsn (zeroI ((fieldsI x.op).take k) x)) 53) := fun o => by rw [over_upd, if_neg n5, over_x hX5]
            simp (disch := omega) only [go_sem, Nat.reduceEqDiff, Nat.reduceAdd, Nat.reduceMul, Nat.reduceSub, Nat.reduceLeDiff, ↓reduceIte, reduceCtorEq, Int.reduceAdd, Int.reduceSub, Int.reduceMul, Int.reduceNeg, Int.reduceToNat, List.reduceReplicate, String.reduceEq, n5, n2]
            refine (getF_spec (G := G) hpF (h5 _)).mono ?_
            rintro _ H2 ⟨rfl, rfl⟩
            rw [hgz]
            have h2X : over Hi X r2 = some (.cells [.bool false] 4) := over_x hX2
            have hdis : ∀ o o5, Disj Hi (upd (upd X r6 (some o)) r5 o5) := fun o o5 => (hd.hi hH6 _).st (r := r5) (by simp only [upd, if_neg n5]; exact hX5) _
            have hdis2 : ∀ o o2, Disj Hi (upd (upd X r6 (some o)) r2 o2) := fun o o2 => (hd.hi hH6 _).st (r := r2) (by simp only [upd, if_neg n2]; exact hX2) _
            have hmf : ¬ (p.2.1 ≤ getI x p.1 ∧ getI x p.1 ≤ p.2.2) → mayI x = false := fun h => by rw [hmv, inI_false hfk h]; simp
            by_cases d1 : getI x p.1 < p.2.1
            · simp (disch := omega) only [go_sem, Nat.reduceEqDiff, Nat.reduceAdd, Nat.reduceMul, Nat.reduceSub, Nat.reduceLeDiff, ↓reduceIte, reduceCtorEq, Int.reduceAdd, Int.reduceSub, Int.reduceMul, Int.reduceNeg, Int.reduceToNat, List.reduceReplicate, String.reduceEq, n5, n2, d1, h2X, List.length_cons, List.length_nil]
              refine ⟨_, rfl, hdis2 _ _, ?_, hmf (by omega)⟩
              rw [upd_same]
            by_cases d2 : p.2.2 < getI x p.1
            · simp (disch := omega) only [go_sem, Nat.reduceEqDiff, Nat.reduceAdd, Nat.reduceMul, Nat.reduceSub, Nat.reduceLeDiff, ↓reduceIte, reduceCtorEq, Int.reduceAdd, Int.reduceSub, Int.reduceMul, Int.reduceNeg, Int.reduceToNat, List.reduceReplicate, String.reduceEq, n5, n2, d1, d2, h2X, List.length_cons, List.length_nil]
              refine ⟨_, rfl, hdis2 _ _, ?_, hmf (by omega)⟩
              rw [upd_same]
            simp (disch := omega) only [go_sem, Nat.reduceEqDiff, Nat.reduceAdd, Nat.reduceMul, Nat.reduceSub, Nat.reduceLeDiff, ↓reduceIte, reduceCtorEq, Int.reduceAdd, Int.reduceSub, Int.reduceMul, Int.reduceNeg, Int.reduceToNat, List.reduceReplicate, String.reduceEq, n5, n2, d1, d2]
            refine (setF_spec (G := G) hpF 0 (h5 _)).mono ?_
            rintro _ H2 ⟨rfl, rfl⟩
            rw [← hzt]
            simp (disch := omega) only [go_sem, Nat.reduceEqDiff, Nat.reduceAdd, Nat.reduceMul, Nat.reduceSub, Nat.reduceLeDiff, ↓reduceIte, reduceCtorEq, Int.reduceAdd, Int.reduceSub, Int.reduceMul, Int.reduceNeg, Int.reduceToNat, List.reduceReplicate, String.reduceEq, n5, n2]
            refine ⟨_, rfl, hdis _ _, ?_, ?_, inI_take hfk hin (by omega)⟩
            · simp only [upd, if_neg q3, if_neg n2]; exact hX2
            · rw [upd_same]
          · rintro X hd ⟨hX2, hX5, hin⟩
            rw [List.length_map, List.take_length] at hX5 hin
            generalize hHi : upd (upd H r1 (some _)) r3 (some _) = Hi0 at hd ⊢
            have a1 : Hi0 r1 = some (.cells (dInsn x) 53) := by rw [← hHi]; simp [upd, m5]
            have hsubH : Sub H Hi0 := by rw [← hHi]; exact (by repeat (first | exact Sub.refl _ | assumption | refine Sub.up ?_ (by assumption) _))
            have hr5X : over Hi0 X r5 = some (.cells (dInsn (zeroI (fieldsI x.op) x)) 53) := over_x hX5
            have hr2X : over Hi0 X r2 = some (.cells [.bool false] 4) := over_x hX2
            have hr1X : over Hi0 X r1 = some (.cells (dInsn x) 53) := by rw [over_hi (hd.x (by rw [a1]; simp)), a1]
            have hdt5 : (dInsn (zeroI (fieldsI x.op) x)).take 7 = dInsn (zeroI (fieldsI x.op) x) := rfl
            have hz : [DVal.int IntKind.u8 x.op, DVal.int IntKind.i64 0, DVal.int IntKind.i64 0, DVal.int IntKind.i64 0, DVal.int IntKind.i64 0, DVal.int IntKind.i64 0, DVal.int IntKind.i64 0] = dInsn (op0 x.op) := rfl
            simp (disch := omega) only [go_sem, Nat.reduceEqDiff, Nat.reduceAdd, Nat.reduceMul, Nat.reduceSub, Nat.reduceLeDiff, ↓reduceIte, reduceCtorEq, Int.reduceAdd, Int.reduceSub, Int.reduceMul, Int.reduceNeg, Int.reduceToNat, List.reduceReplicate, String.reduceEq, hr5X, hr2X, hr1X, hdt5, hz, hx0, dInsn_len, agg_eq agg_insn guard_insn (eq_insn (zeroI (fieldsI x.op) x) (op0 x.op)), List.length_cons, List.length_nil]
            exact DFin.sub (sub_over hsubH (hd.st hX2 _)) (DFin.refl ⟨by rw [hmd hin], rfl⟩)
          · rintro c X hd ⟨rfl, hX2, hmm⟩
            generalize hHi : upd (upd H r1 (some _)) r3 (some _) = Hi0 at hd ⊢
            have hsubH : Sub H Hi0 := by rw [← hHi]; exact (by repeat (first | exact Sub.refl _ | assumption | refine Sub.up ?_ (by assumption) _))
            have hr2X : over Hi0 X r2 = some (.cells [.bool false] 4) := over_x hX2
            simp only [DJump]
            simp (disch := omega) only [go_sem, Nat.reduceEqDiff, Nat.reduceAdd, Nat.reduceMul, Nat.reduceSub, Nat.reduceLeDiff, ↓reduceIte, reduceCtorEq, Int.reduceAdd, Int.reduceSub, Int.reduceMul, Int.reduceNeg, Int.reduceToNat, List.reduceReplicate, String.reduceEq, hr2X, List.length_cons, List.length_nil]
            exact DFin.sub (sub_over hsubH hd) (DFin.refl ⟨by rw [hmm], rfl⟩)
        · simp (disch := omega) only [go_sem, Nat.reduceEqDiff, Nat.reduceAdd, Nat.reduceMul, Nat.reduceSub, Nat.reduceLeDiff, ↓reduceIte, reduceCtorEq, Int.reduceAdd, Int.reduceSub, Int.reduceMul, Int.reduceNeg, Int.reduceToNat, List.reduceReplicate, String.reduceEq, m1, m2, m3, m4, m5, m6, hx0, hx4, hx5, hw6, hdt, dInsn_len, c6, c7, c8]
          intro r5 hr5; dsimp only at hr5
          obtain ⟨q2, q1, hr5a⟩ := upd_eq_none.1 hr5
          obtain ⟨q4, q3, hr5b⟩ := upd_eq_none.1 hr5a
          obtain ⟨q6, q5, hr5'⟩ := upd_eq_none.1 hr5b
          simp (disch := omega) only [go_sem, Nat.reduceEqDiff, Nat.reduceAdd, Nat.reduceMul, Nat.reduceSub, Nat.reduceLeDiff, ↓reduceIte, reduceCtorEq, Int.reduceAdd, Int.reduceSub, Int.reduceMul, Int.reduceNeg, Int.reduceToNat, List.reduceReplicate, String.reduceEq, m1, m2, m3, m4, m5, m6, q1, q2, q3, q4, q5, q6, dInsn_len, hda, List.append_nil]
          refine (fieldsf_spec (G := G) r5).mono ?_
          rintro _ H1 ⟨rfl, rfl⟩
          simp (disch := omega) only [go_sem, Nat.reduceEqDiff, Nat.reduceAdd, Nat.reduceMul, Nat.reduceSub, Nat.reduceLeDiff, ↓reduceIte, reduceCtorEq, Int.reduceAdd, Int.reduceSub, Int.reduceMul, Int.reduceNeg, Int.reduceToNat, List.reduceReplicate, String.reduceEq]
          refine dwp_rangeX 87 [.vptr [.optr r5 0] 0] ((fieldsI x.op).map fun p => [dFieldV r5 p]) _ (upd (upd h0 r2 (some (.cells [.bool false] 4))) r5 (some (.cells (dInsn x) 53)))
            (fields_iter hG p0 p1 (by simp [upd])) rfl (by kernel_rfl) (by intro z hz; obtain ⟨p, _, rfl⟩ := List.mem_map.1 hz; rfl) (over22 H _ _ _ _ m4 q6 m2 q2) (((Disj.h0 _).hi (upd_eq_none.2 ⟨m3, m4, hr2⟩) _).hi (upd_eq_none.2 ⟨q2, q1, upd_eq_none.2 ⟨q6, q5, hr5'⟩⟩) _)
            (fun k X => X r2 = some (.cells [.bool false] 4) ∧ X r5 = some (.cells (dInsn (zeroI ((fieldsI x.op).take k) x)) 53) ∧ inI ((fieldsI x.op).take k) x = true)
            (fun c X => c = .ret ∧ X r2 = some (.cells [.bool false] 4) ∧ mayI x = false) ⟨by simp [upd, q3], by simp [upd]; rfl, rfl⟩ ?_ ?_ ?_
          · rintro k z Hi X hd hz ⟨hX2, hX5, hin⟩
            rw [List.getElem?_map, Option.map_eq_some_iff] at hz
            obtain ⟨p, hfk, rfl⟩ := hz
            have hpF := (hfok p (List.mem_of_getElem? hfk)).1
            have hgz := get_zero_take hnd (fun f hf => (hfok f hf).1) hfk x
            have hzt := zero_take hfk x
            simp (disch := omega) only [go_sem, Nat.reduceEqDiff, Nat.reduceAdd, Nat.reduceMul, Nat.reduceSub, Nat.reduceLeDiff, ↓reduceIte, reduceCtorEq, Int.reduceAdd, Int.reduceSub, Int.reduceMul, Int.reduceNeg, Int.reduceToNat, List.reduceReplicate, String.reduceEq, dFieldV, DVal.cells]
            intro r6 hr6; dsimp only at hr6
            obtain ⟨hH6, hX6⟩ := over_eq_none.1 hr6
            have n5 : ¬ r5 = r6 := fun e => by subst e; rw [hX5] at hX6; cases hX6
            have n2 : ¬ r2 = r6 := fun e => by subst e; rw [hX2] at hX6; cases hX6
            have h5 : ∀ o, over Hi (upd X r6 (some o)) r5 = some (.cells (dInsn (zeroI ((fieldsI x.op).take k) x)) 53) := fun o => by rw [over_upd, if_neg n5, over_x hX5]
            simp (disch := omega) only [go_sem, Nat.reduceEqDiff, Nat.reduceAdd, Nat.reduceMul, Nat.reduceSub, Nat.reduceLeDiff, ↓reduceIte, reduceCtorEq, Int.reduceAdd, Int.reduceSub, Int.reduceMul, Int.reduceNeg, Int.reduceToNat, List.reduceReplicate, String.reduceEq, n5, n2]
            refine (getF_spec (G := G) hpF (h5 _)).mono ?_
            rintro _ H2 ⟨rfl, rfl⟩
            rw [hgz]
            have h2X : over Hi X r2 = some (.cells [.bool false] 4) := over_x hX2
            have hdis : ∀ o o5, Disj Hi (upd (upd X r6 (some o)) r5 o5) := fun o o5 => (hd.hi hH6 _).st (r := r5) (by simp only [upd, if_neg n5]; exact hX5) _
            have hdis2 : ∀ o o2, Disj Hi (upd (upd X r6 (some o)) r2 o2) := fun o o2 => (hd.hi hH6 _).st (r := r2) (by simp only [upd, if_neg n2]; exact hX2) _
            have hmf : ¬ (p.2.1 ≤ getI x p.1 ∧ getI x p.1 ≤ p.2.2) → mayI x = false := fun h => by rw [hmv, inI_false hfk h]; simp
            by_cases d1 : getI x p.1 < p.2.1
            · simp (disch := omega) only [go_sem, Nat.reduceEqDiff, Nat.reduceAdd, Nat.reduceMul, Nat.reduceSub, Nat.reduceLeDiff, ↓reduceIte, reduceCtorEq, Int.reduceAdd, Int.reduceSub, Int.reduceMul, Int.reduceNeg, Int.reduceToNat, List.reduceReplicate, String.reduceEq, n5, n2, d1, h2X, List.length_cons, List.length_nil]
              refine ⟨_, rfl, hdis2 _ _, ?_, hmf (by omega)⟩
              rw [upd_same]
            by_cases d2 : p.2.2 < getI x p.1
            · simp (disch := omega) only [go_sem, Nat.reduceEqDiff, Nat.reduceAdd, Nat.reduceMul, Nat.reduceSub, Nat.reduceLeDiff, ↓reduceIte, reduceCtorEq, Int.reduceAdd, Int.reduceSub, Int.reduceMul, Int.reduceNeg, Int.reduceToNat, List.reduceReplicate, String.reduceEq, n5, n2, d1, d2, h2X, List.length_cons, List.length_nil]
              refine ⟨_, rfl, hdis2 _ _, ?_, hmf (by omega)⟩
              rw [upd_same]
            simp (disch := omega) only [go_sem, Nat.reduceEqDiff, Nat.reduceAdd, Nat.reduceMul, Nat.reduceSub, Nat.reduceLeDiff, ↓reduceIte, reduceCtorEq, Int.reduceAdd, Int.reduceSub, Int.reduceMul, Int.reduceNeg, Int.reduceToNat, List.reduceReplicate, String.reduceEq, n5, n2, d1, d2]
            refine (setF_spec (G := G) hpF 0 (h5 _)).mono ?_
            rintro _ H2 ⟨rfl, rfl⟩
            rw [← hzt]
            simp (disch := omega) only [go_sem, Nat.reduceEqDiff, Nat.reduceAdd, Nat.reduceMul, Nat.reduceSub, Nat.reduceLeDiff, ↓reduceIte, reduceCtorEq, Int.reduceAdd, Int.reduceSub, Int.reduceMul, Int.reduceNeg, Int.reduceToNat, List.reduceReplicate, String.reduceEq, n5, n2]
            refine ⟨_, rfl, hdis _ _, ?_, ?_, inI_take hfk hin (by omega)⟩
            · simp only [upd, if_neg q3, if_neg n2]; exact hX2
            · rw [upd_same]
          · rintro X hd ⟨hX2, hX5, hin⟩
            rw [List.length_map, List.take_length] at hX5 hin
            generalize hHi : upd (upd H r1 (some _)) r3 (some _) = Hi0 at hd ⊢
            have a1 : Hi0 r1 = some (.cells (dInsn x) 53) := by rw [← hHi]; simp [upd, m5]
            have hsubH : Sub H Hi0 := by rw [← hHi]; exact (by repeat (first | exact Sub.refl _ | assumption | refine Sub.up ?_ (by assumption) _))
            have hr5X : over Hi0 X r5 = some (.cells (dInsn (zeroI (fieldsI x.op) x)) 53) := over_x hX5
            have hr2X : over Hi0 X r2 = some (.cells [.bool false] 4) := over_x hX2
            have hr1X : over Hi0 X r1 = some (.cells (dInsn x) 53) := by rw [over_hi (hd.x (by rw [a1]; simp)), a1]
            have hdt5 : (dInsn (zeroI (fieldsI x.op) x)).take 7 = dInsn (zeroI (fieldsI x.op) x) := rfl
            have hz : [DVal.int IntKind.u8 x.op, DVal.int IntKind.i64 0, DVal.int IntKind.i64 0, DVal.int IntKind.i64 0, DVal.int IntKind.i64 0, DVal.int IntKind.i64 0, DVal.int IntKind.i64 0] = dInsn (op0 x.op) := rfl
            simp (disch := omega) only [go_sem, Nat.reduceEqDiff, Nat.reduceAdd, Nat.reduceMul, Nat.reduceSub, Nat.reduceLeDiff, ↓reduceIte, reduceCtorEq, Int.reduceAdd, Int.reduceSub, Int.reduceMul, Int.reduceNeg, Int.reduceToNat, List.reduceReplicate, String.reduceEq, hr5X, hr2X, hr1X, hdt5, hz, hx0, dInsn_len, agg_eq agg_insn guard_insn (eq_insn (zeroI (fieldsI x.op) x) (op0 x.op)), List.length_cons, List.length_nil]
            exact DFin.sub (sub_over hsubH (hd.st hX2 _)) (DFin.refl ⟨by rw [hmd hin], rfl⟩)
          · rintro c X hd ⟨rfl, hX2, hmm⟩
            generalize hHi : upd (upd H r1 (some _)) r3 (some _) = Hi0 at hd ⊢
            have hsubH : Sub H Hi0 := by rw [← hHi]; exact (by repeat (first | exact Sub.refl _ | assumption | refine Sub.up ?_ (by assumption) _))
            have hr2X : over Hi0 X r2 = some (.cells [.bool false] 4) := over_x hX2
            simp only [DJump]
            simp (disch := omega) only [go_sem, Nat.reduceEqDiff, Nat.reduceAdd, Nat.reduceMul, Nat.reduceSub, Nat.reduceLeDiff, ↓reduceIte, reduceCtorEq, Int.reduceAdd, Int.reduceSub, Int.reduceMul, Int.reduceNeg, Int.reduceToNat, List.reduceReplicate, String.reduceEq, hr2X, List.length_cons, List.length_nil]
            exact DFin.sub (sub_over hsubH hd) (DFin.refl ⟨by rw [hmm], rfl⟩)
      · simp (disch := omega) only [go_sem, Nat.reduceEqDiff, Nat.reduceAdd, Nat.reduceMul, Nat.reduceSub, Nat.reduceLeDiff, ↓reduceIte, reduceCtorEq, Int.reduceAdd, Int.reduceSub, Int.reduceMul, Int.reduceNeg, Int.reduceToNat, List.reduceReplicate, String.reduceEq, m1, m2, m3, m4, m5, m6, hx0, hx4, hx5, hw6, hdt, dInsn_len, c6, c7]
        intro r5 hr5; dsimp only at hr5
        obtain ⟨q2, q1, hr5a⟩ := upd_eq_none.1 hr5
        obtain ⟨q4, q3, hr5b⟩ := upd_eq_none.1 hr5a
        obtain ⟨q6, q5, hr5'⟩ := upd_eq_none.1 hr5b
        simp (disch := omega) only [go_sem, Nat.reduceEqDiff, Nat.reduceAdd, Nat.reduceMul, Nat.reduceSub, Nat.reduceLeDiff, ↓reduceIte, reduceCtorEq, Int.reduceAdd, Int.reduceSub, Int.reduceMul, Int.reduceNeg, Int.reduceToNat, List.reduceReplicate, String.reduceEq, m1, m2, m3, m4, m5, m6, q1, q2, q3, q4, q5, q6, dInsn_len, hda, List.append_nil]
        refine (fieldsf_spec (G := G) r5).mono ?_
        rintro _ H1 ⟨rfl, rfl⟩
        simp (disch := omega) only [go_sem, Nat.reduceEqDiff, Nat.reduceAdd, Nat.reduceMul, Nat.reduceSub, Nat.reduceLeDiff, ↓reduceIte, reduceCtorEq, Int.reduceAdd, Int.reduceSub, Int.reduceMul, Int.reduceNeg, Int.reduceToNat, List.reduceReplicate, String.reduceEq]
        refine dwp_rangeX 87 [.vptr [.optr r5 0] 0] ((fieldsI x.op).map fun p => [dFieldV r5 p]) _ (upd (upd h0 r2 (some (.cells [.bool false] 4))) r5 (some (.cells (dInsn x) 53)))
          (fields_iter hG p0 p1 (by simp [upd])) rfl (by kernel_rfl) (by intro z hz; obtain ⟨p, _, rfl⟩ := List.mem_map.1 hz; rfl) (over22 H _ _ _ _ m4 q6 m2 q2) (((Disj.h0 _).hi (upd_eq_none.2 ⟨m3, m4, hr2⟩) _).hi (upd_eq_none.2 ⟨q2, q1, upd_eq_none.2 ⟨q6, q5, hr5'⟩⟩) _)
          (fun k X => X r2 = some (.cells [.bool false] 4) ∧ X r5 = some (.cells (dInsn (zeroI ((fieldsI x.op).take k) x)) 53) ∧ inI ((fieldsI x.op).take k) x = true)
          (fun c X => c = .ret ∧ X r2 = some (.cells [.bool false] 4) ∧ mayI x = false) ⟨by simp [upd, q3], by simp [upd]; rfl, rfl⟩ ?_ ?_ ?_
        · rintro k z Hi X hd hz ⟨hX2, hX5, hin⟩
          rw [List.getElem?_map, Option.map_eq_some_iff] at hz
          obtain ⟨p, hfk, rfl⟩ := hz
          have hpF := (hfok p (List.mem_of_getElem? hfk)).1
          have hgz := get_zero_take hnd (fun f hf => (hfok f hf).1) hfk x
          have hzt := zero_take hfk x
          simp (disch := omega) only [go_sem, Nat.reduceEqDiff, Nat.reduceAdd, Nat.reduceMul, Nat.reduceSub, Nat.reduceLeDiff, ↓reduceIte, reduceCtorEq, Int.reduceAdd, Int.reduceSub, Int.reduceMul, Int.reduceNeg, Int.reduceToNat, List.reduceReplicate, String.reduceEq, dFieldV, DVal.cells]
          intro r6 hr6; dsimp only at hr6
          obtain ⟨hH6, hX6⟩ := over_eq_none.1 hr6
          have n5 : ¬ r5 = r6 := fun e => by subst e; rw [hX5] at hX6; cases hX6
          have n2 : ¬ r2 = r6 := fun e => by subst e; rw [hX2] at hX6; cases hX6
          have h5 : ∀ o, over Hi (upd X r6 (some o)) r5 = some (.cells (dInsn (zeroI ((fieldsI x.op).take k) x)) 53) := fun o => by rw [over_upd, if_neg n5, over_x hX5]
          simp (disch := omega) only [go_sem, Nat.reduceEqDiff, Nat.reduceAdd, Nat.reduceMul, Nat.reduceSub, Nat.reduceLeDiff, ↓reduceIte, reduceCtorEq, Int.reduceAdd, Int.reduceSub, Int.reduceMul, Int.reduceNeg, Int.reduceToNat, List.reduceReplicate, String.reduceEq, n5, n2]
          refine (getF_spec (G := G) hpF (h5 _)).mono ?_
          rintro _ H2 ⟨rfl, rfl⟩
          rw [hgz]
          have h2X : over Hi X r2 = some (.cells [.bool false] 4) := over_x hX2
          have hdis : ∀ o o5, Disj Hi (upd (upd X r6 (some o)) r5 o5) := fun o o5 => (hd.hi hH6 _).st (r := r5) (by simp only [upd, if_neg n5]; exact hX5) _
          have hdis2 : ∀ o o2, Disj Hi (upd (upd X r6 (some o)) r2 o2) := fun o o2 => (hd.hi hH6 _).st (r := r2) (by simp only [upd, if_neg n2]; exact hX2) _
          have hmf : ¬ (p.2.1 ≤ getI x p.1 ∧ getI x p.1 ≤ p.2.2) → mayI x = false := fun h => by rw [hmv, inI_false hfk h]; simp
          by_cases d1 : getI x p.1 < p.2.1
          · simp (disch := omega) only [go_sem, Nat.reduceEqDiff, Nat.reduceAdd, Nat.reduceMul, Nat.reduceSub, Nat.reduceLeDiff, ↓reduceIte, reduceCtorEq, Int.reduceAdd, Int.reduceSub, Int.reduceMul, Int.reduceNeg, Int.reduceToNat, List.reduceReplicate, String.reduceEq, n5, n2, d1, h2X, List.length_cons, List.length_nil]
            refine ⟨_, rfl, hdis2 _ _, ?_, hmf (by omega)⟩
            rw [upd_same]
          by_cases d2 : p.2.2 < getI x p.1
          · simp (disch := omega) only [go_sem, Nat.reduceEqDiff, Nat.reduceAdd, Nat.reduceMul, Nat.reduceSub, Nat.reduceLeDiff, ↓reduceIte, reduceCtorEq, Int.reduceAdd, Int.reduceSub, Int.reduceMul, Int.reduceNeg, Int.reduceToNat, List.reduceReplicate, String.reduceEq, n5, n2, d1, d2, h2X, List.length_cons, List.length_nil]
            refine ⟨_, rfl, hdis2 _ _, ?_, hmf (by omega)⟩
            rw [upd_same]
          simp (disch := omega) only [go_sem, Nat.reduceEqDiff, Nat.reduceAdd, Nat.reduceMul, Nat.reduceSub, Nat.reduceLeDiff, ↓reduceIte, reduceCtorEq, Int.reduceAdd, Int.reduceSub, Int.reduceMul, Int.reduceNeg, Int.reduceToNat, List.reduceReplicate, String.reduceEq, n5, n2, d1, d2]
          refine (setF_spec (G := G) hpF 0 (h5 _)).mono ?_
          rintro _ H2 ⟨rfl, rfl⟩
          rw [← hzt]
          simp (disch := omega) only [go_sem, Nat.reduceEqDiff, Nat.reduceAdd, Nat.reduceMul, Nat.reduceSub, Nat.reduceLeDiff, ↓reduceIte, reduceCtorEq, Int.reduceAdd, Int.reduceSub, Int.reduceMul, Int.reduceNeg, Int.reduceToNat, List.reduceReplicate, String.reduceEq, n5, n2]
          refine ⟨_, rfl, hdis _ _, ?_, ?_, inI_take hfk hin (by omega)⟩
          · simp only [upd, if_neg q3, if_neg n2]; exact hX2
          · rw [upd_same]
        · rintro X hd ⟨hX2, hX5, hin⟩
          rw [List.length_map, List.take_length] at hX5 hin
          generalize hHi : upd (upd H r1 (some _)) r3 (some _) = Hi0 at hd ⊢
          have a1 : Hi0 r1 = some (.cells (dInsn x) 53) := by rw [← hHi]; simp [upd, m5]
          have hsubH : Sub H Hi0 := by rw [← hHi]; exact (by repeat (first | exact Sub.refl _ | assumption | refine Sub.up ?_ (by assumption) _))
          have hr5X : over Hi0 X r5 = some (.cells (dInsn (zeroI (fieldsI x.op) x)) 53) := over_x hX5
          have hr2X : over Hi0 X r2 = some (.cells [.bool false] 4) := over_x hX2
          have hr1X : over Hi0 X r1 = some (.cells (dInsn x) 53) := by rw [over_hi (hd.x (by rw [a1]; simp)), a1]
          have hdt5 : (dInsn (zeroI (fieldsI x.op) x)).take 7 = dInsn (zeroI (fieldsI x.op) x) := rfl
          have hz : [DVal.int IntKind.u8 x.op, DVal.int IntKind.i64 0, DVal.int IntKind.i64 0, DVal.int IntKind.i64 0, DVal.int IntKind.i64 0, DVal.int IntKind.i64 0, DVal.int IntKind.i64 0] = dInsn (op0 x.op) := rfl
          simp (disch := omega) only [go_sem, Nat.reduceEqDiff, Nat.reduceAdd, Nat.reduceMul, Nat.reduceSub, Nat.reduceLeDiff, ↓reduceIte, reduceCtorEq, Int.reduceAdd, Int.reduceSub, Int.reduceMul, Int.reduceNeg, Int.reduceToNat, List.reduceReplicate, String.reduceEq, hr5X, hr2X, hr1X, hdt5, hz, hx0, dInsn_len, agg_eq agg_insn guard_insn (eq_insn (zeroI (fieldsI x.op) x) (op0 x.op)), List.length_cons, List.length_nil]
          exact DFin.sub (sub_over hsubH (hd.st hX2 _)) (DFin.refl ⟨by rw [hmd hin], rfl⟩)
        · rintro c X hd ⟨rfl, hX2, hmm⟩
          generalize hHi : upd (upd H r1 (some _)) r3 (some _) = Hi0 at hd ⊢
          have hsubH : Sub H Hi0 := by rw [← hHi]; exact (by repeat (first | exact Sub.refl _ | assumption | refine Sub.up ?_ (by assumption) _))
          have hr2X : over Hi0 X r2 = some (.cells [.bool false] 4) := over_x hX2
          simp only [DJump]
          simp (disch := omega) only [go_sem, Nat.reduceEqDiff, Nat.reduceAdd, Nat.reduceMul, Nat.reduceSub, Nat.reduceLeDiff, ↓reduceIte, reduceCtorEq, Int.reduceAdd, Int.reduceSub, Int.reduceMul, Int.reduceNeg, Int.reduceToNat, List.reduceReplicate, String.reduceEq, hr2X, List.length_cons, List.length_nil]
          exact DFin.sub (sub_over hsubH hd) (DFin.refl ⟨by rw [hmm], rfl⟩)
end Go.Dl

-- Chapter 22: Text.
namespace Go.Dl
open Go Go.Proofs
set_option maxRecDepth 10000

theorem numsF_snoc (vs : List Int) (v : Int) : numsF (vs ++ [v]) = numsF vs ++ ([32] ++ Lib.itoa v) := by simp [numsF]
theorem numsF_len : ∀ (vs : List Int), (∀ v ∈ vs, I64 v) → (numsF vs).length ≤ 22 * vs.length
  | [], _ => by simp [numsF]
  | v :: vs, h => by
    have h1 := numsF_len vs fun u hu => h u (by simp [hu])
    have h2 := itoa_len (h v (by simp))
    rw [show numsF (v :: vs) = 32 :: (Lib.itoa v ++ numsF vs) from rfl]
    simp only [List.length_cons, List.length_append]
    omega
def textID (x : Insn) : List UInt8 × Int := if mayI x then (textI x, 0) else ([], 2)
/-- The text of the first fields. -/
def textIk (x : Insn) (k : Nat) : List UInt8 := nameC x.op.toNat ++ numsF (((fieldsI x.op).take k).map fun f => getI x f.1)
theorem textIk_succ {x : Insn} {k : Nat} {p : Int × Int × Int} (h : (fieldsI x.op)[k]? = some p) : textIk x (k + 1) = textIk x k ++ ([32] ++ Lib.itoa (getI x p.1)) := by
  rw [textIk, List.take_add_one, h, Option.toList_some, List.map_append, List.map_cons, List.map_nil, numsF_snoc, textIk, List.append_assoc]
theorem textIk_all (x : Insn) : textIk x (fieldsI x.op).length = textI x := by rw [textIk, List.take_length]; rfl
theorem textIk_len {x : Insn} (h : mayI x = true) (k : Nat) : (textIk x k).length ≤ 200 := by
  have hn := (nameC_chars (o := x.op.toNat) (by have := mayI_at h; omega) (by have := mayI_at h; omega)).2.1
  have hw := mayI_w h
  have hl := (fieldsI_ok x.op).1
  have := numsF_len (((fieldsI x.op).take k).map fun f => getI x f.1) fun v hv => by
    obtain ⟨f, hf, rfl⟩ := List.mem_map.1 hv
    exact hw f (List.mem_of_mem_take hf)
  rw [List.length_map, List.length_take] at this
  rw [textIk, List.length_append]
  omega

theorem overX2 (H : DHeap) {a b : Nat} (oa ob : DObj) : upd (upd H a (some oa)) b (some ob) = over H (upd (upd h0 a (some oa)) b (some ob)) := by
  rw [← upd_over, ← upd_over, over_h0]
set_option maxHeartbeats 4000000 in
theorem textI_spec {G : Nat → DVal} (hG : GI G) (H : DHeap) (x : Insn) (p0 : 0 ≤ x.op) (p1 : x.op < 256) : DCalls Tryd.prog G 29 [.agg (dInsn x)] H (DRet (.tuple [.str (textID x).1, dI (textID x).2]) H) := by
  obtain ⟨hfl, hnd, hfok⟩ := fieldsI_ok x.op
  have hx0 : (dInsn x)[0]? = some (.int .u8 x.op) := rfl
  have hdt : (dInsn x).take 7 = dInsn x := rfl
  refine dcalls_intro Tryd.func29 Tryd.call29 rfl (by kernel_rfl) ?_
  simp (disch := omega) only [go_sem, Nat.reduceEqDiff, Nat.reduceAdd, Nat.reduceMul, Nat.reduceSub, Nat.reduceLeDiff, ↓reduceIte, reduceCtorEq, Int.reduceAdd, Int.reduceSub, Int.reduceMul, Int.reduceNeg, Int.reduceToNat, List.reduceReplicate, String.reduceEq, DVal.cells]
  intro r1 hr1; dsimp only at hr1
  simp (disch := omega) only [go_sem, Nat.reduceEqDiff, Nat.reduceAdd, Nat.reduceMul, Nat.reduceSub, Nat.reduceLeDiff, ↓reduceIte, reduceCtorEq, Int.reduceAdd, Int.reduceSub, Int.reduceMul, Int.reduceNeg, Int.reduceToNat, List.reduceReplicate, String.reduceEq, hdt, dInsn_len]
  refine (mayI_spec hG _ x p0 p1).mono ?_
  rintro _ H1 ⟨rfl, rfl⟩
  cases hm : mayI x with
  | false =>
    simp (disch := omega) only [go_sem, Nat.reduceEqDiff, Nat.reduceAdd, Nat.reduceMul, Nat.reduceSub, Nat.reduceLeDiff, ↓reduceIte, reduceCtorEq, Int.reduceAdd, Int.reduceSub, Int.reduceMul, Int.reduceNeg, Int.reduceToNat, List.reduceReplicate, String.reduceEq]
    exact DFin.dropA r1 hr1 (DFin.refl ⟨by rw [textID, hm]; rfl, rfl⟩)
  | true =>
    have hop : 1 ≤ x.op ∧ x.op ≤ 57 := by have := mayI_at hm; omega
    have hrow : (rowAt x.op).1 = nameC x.op.toNat := by rw [rowAt_name, if_pos (by simp [isO]; omega)]
    simp (disch := omega) only [go_sem, Nat.reduceEqDiff, Nat.reduceAdd, Nat.reduceMul, Nat.reduceSub, Nat.reduceLeDiff, ↓reduceIte, reduceCtorEq, Int.reduceAdd, Int.reduceSub, Int.reduceMul, Int.reduceNeg, Int.reduceToNat, List.reduceReplicate, String.reduceEq, hx0]
    refine (name_spec hG.rows _ x.op p0 p1).mono ?_
    rintro _ H1 ⟨rfl, rfl⟩
    rw [hrow]
    simp (disch := omega) only [go_sem, Nat.reduceEqDiff, Nat.reduceAdd, Nat.reduceMul, Nat.reduceSub, Nat.reduceLeDiff, ↓reduceIte, reduceCtorEq, Int.reduceAdd, Int.reduceSub, Int.reduceMul, Int.reduceNeg, Int.reduceToNat, List.reduceReplicate, String.reduceEq, DVal.cells]
    intro r4 hr4; dsimp only at hr4
    obtain ⟨m2, m1, hr4'⟩ := upd_eq_none.1 hr4
    simp (disch := omega) only [go_sem, Nat.reduceEqDiff, Nat.reduceAdd, Nat.reduceMul, Nat.reduceSub, Nat.reduceLeDiff, ↓reduceIte, reduceCtorEq, Int.reduceAdd, Int.reduceSub, Int.reduceMul, Int.reduceNeg, Int.reduceToNat, List.reduceReplicate, String.reduceEq, m1, m2]
    refine (fieldsf_spec (G := G) r1).mono ?_
    rintro _ H1 ⟨rfl, rfl⟩
    simp (disch := omega) only [go_sem, Nat.reduceEqDiff, Nat.reduceAdd, Nat.reduceMul, Nat.reduceSub, Nat.reduceLeDiff, ↓reduceIte, reduceCtorEq, Int.reduceAdd, Int.reduceSub, Int.reduceMul, Int.reduceNeg, Int.reduceToNat, List.reduceReplicate, String.reduceEq]
    refine dwp_rangeX 87 [.vptr [.optr r1 0] 0] ((fieldsI x.op).map fun p => [dFieldV r1 p]) _ (upd (upd h0 r1 (some (.cells (dInsn x) 53))) r4 (some (.cells [.str (nameC x.op.toNat)] 9)))
      (fields_iter hG p0 p1 (by simp [upd, m1])) rfl (by kernel_rfl) (by intro z hz; obtain ⟨p, _, rfl⟩ := List.mem_map.1 hz; rfl) (overX2 H _ _) (((Disj.h0 _).hi hr1 _).hi hr4' _)
      (fun k X => X r1 = some (.cells (dInsn x) 53) ∧ X r4 = some (.cells [.str (textIk x k)] 9))
      (fun c X => False) ⟨by simp [upd, m1], by simp [upd, textIk, numsF]⟩ ?_ ?_ ?_
    · rintro k z Hi X hd hz ⟨hX1, hX4⟩
      rw [List.getElem?_map, Option.map_eq_some_iff] at hz
      obtain ⟨p, hfk, rfl⟩ := hz
      have hpF := (hfok p (List.mem_of_getElem? hfk)).1
      have hw := mayI_w hm p (List.mem_of_getElem? hfk)
      have htl := textIk_len hm k
      have hil := itoa_len hw
      have hts := textIk_succ hfk
      simp (disch := omega) only [go_sem, Nat.reduceEqDiff, Nat.reduceAdd, Nat.reduceMul, Nat.reduceSub, Nat.reduceLeDiff, ↓reduceIte, reduceCtorEq, Int.reduceAdd, Int.reduceSub, Int.reduceMul, Int.reduceNeg, Int.reduceToNat, List.reduceReplicate, String.reduceEq, dFieldV, DVal.cells]
      intro r6 hr6; dsimp only at hr6
      obtain ⟨hH6, hX6⟩ := over_eq_none.1 hr6
      have n1 : ¬ r1 = r6 := fun e => by subst e; rw [hX1] at hX6; cases hX6
      have n4 : ¬ r4 = r6 := fun e => by subst e; rw [hX4] at hX6; cases hX6
      have h1' : ∀ o, over Hi (upd X r6 (some o)) r1 = some (.cells (dInsn x) 53) := fun o => by rw [over_upd, if_neg n1, over_x hX1]
      have h4 : over Hi X r4 = some (.cells [.str (textIk x k)] 9) := over_x hX4
      simp (disch := omega) only [go_sem, Nat.reduceEqDiff, Nat.reduceAdd, Nat.reduceMul, Nat.reduceSub, Nat.reduceLeDiff, ↓reduceIte, reduceCtorEq, Int.reduceAdd, Int.reduceSub, Int.reduceMul, Int.reduceNeg, Int.reduceToNat, List.reduceReplicate, String.reduceEq, n1, n4]
      refine dwp_draws (by kernel_rfl) (.take 0 (.take 1 (.take 2 (.go 3 [0] (.go 4 [2, 0] (.take 5 (.take 6 (.go 7 [] .done)))))))) (by kernel_rfl) ?_
      simp (disch := omega) only [go_sem, Nat.reduceEqDiff, Nat.reduceAdd, Nat.reduceMul, Nat.reduceSub, Nat.reduceLeDiff, ↓reduceIte, reduceCtorEq, Int.reduceAdd, Int.reduceSub, Int.reduceMul, Int.reduceNeg, Int.reduceToNat, List.reduceReplicate, String.reduceEq, n1, n4, h4]
      refine (getF_spec (G := G) hpF (h1' _)).mono ?_
      rintro _ H2 ⟨rfl, rfl⟩
      simp (disch := omega) only [go_sem, Nat.reduceEqDiff, Nat.reduceAdd, Nat.reduceMul, Nat.reduceSub, Nat.reduceLeDiff, ↓reduceIte, reduceCtorEq, Int.reduceAdd, Int.reduceSub, Int.reduceMul, Int.reduceNeg, Int.reduceToNat, List.reduceReplicate, String.reduceEq, n1, n4, h4]
      refine (formatInt_spec hG.pow (getI x p.1) hw).mono ?_
      rintro _ H2 ⟨rfl, rfl⟩
      simp (disch := omega) only [go_sem, Nat.reduceEqDiff, Nat.reduceAdd, Nat.reduceMul, Nat.reduceSub, Nat.reduceLeDiff, ↓reduceIte, reduceCtorEq, Int.reduceAdd, Int.reduceSub, Int.reduceMul, Int.reduceNeg, Int.reduceToNat, List.reduceReplicate, String.reduceEq, n1, n4, h4, List.length_append, List.length_cons, List.length_nil]
      refine ⟨_, rfl, (hd.hi hH6 _).st (r := r4) (by simp only [upd, if_neg n4]; exact hX4) _, ?_, ?_⟩
      · simp only [upd, if_neg m1, if_neg n1]; exact hX1
      · rw [upd_same, hts]; simp
    · rintro X hd ⟨hX1, hX4⟩
      rw [List.length_map, textIk_all] at hX4
      have h4 : over H X r4 = some (.cells [.str (textI x)] 9) := over_x hX4
      simp (disch := omega) only [go_sem, Nat.reduceEqDiff, Nat.reduceAdd, Nat.reduceMul, Nat.reduceSub, Nat.reduceLeDiff, ↓reduceIte, reduceCtorEq, Int.reduceAdd, Int.reduceSub, Int.reduceMul, Int.reduceNeg, Int.reduceToNat, List.reduceReplicate, String.reduceEq, h4]
      exact DFin.sub (sub_over (Sub.refl H) hd) (DFin.refl ⟨by rw [textID, hm]; rfl, rfl⟩)
    · rintro c X hd h; exact h.elim

set_option maxHeartbeats 4000000 in
theorem rtextI_spec (G : Nat → DVal) (H : DHeap) (x : Insn) (p0 : 0 ≤ x.op) (p1 : x.op < 256) : DCalls Tryd.prog G 30 [.agg (dInsn x)] H (DRet (.tuple [.str (textID x).1, dI (textID x).2]) H) := by
  obtain ⟨hfl, hnd, hfok⟩ := fieldsI_ok x.op
  have hx0 : (dInsn x)[0]? = some (.int .u8 x.op) := rfl
  have hdt : (dInsn x).take 7 = dInsn x := rfl
  refine dcalls_intro Tryd.func30 Tryd.call30 rfl (by kernel_rfl) ?_
  simp (disch := omega) only [go_sem, Nat.reduceEqDiff, Nat.reduceAdd, Nat.reduceMul, Nat.reduceSub, Nat.reduceLeDiff, ↓reduceIte, reduceCtorEq, Int.reduceAdd, Int.reduceSub, Int.reduceMul, Int.reduceNeg, Int.reduceToNat, List.reduceReplicate, String.reduceEq, DVal.cells]
  intro r1 hr1; dsimp only at hr1
  simp (disch := omega) only [go_sem, Nat.reduceEqDiff, Nat.reduceAdd, Nat.reduceMul, Nat.reduceSub, Nat.reduceLeDiff, ↓reduceIte, reduceCtorEq, Int.reduceAdd, Int.reduceSub, Int.reduceMul, Int.reduceNeg, Int.reduceToNat, List.reduceReplicate, String.reduceEq, hdt, dInsn_len]
  refine (rmayI_spec G _ x p0 p1).mono ?_
  rintro _ H1 ⟨rfl, rfl⟩
  cases hm : mayI x with
  | false =>
    simp (disch := omega) only [go_sem, Nat.reduceEqDiff, Nat.reduceAdd, Nat.reduceMul, Nat.reduceSub, Nat.reduceLeDiff, ↓reduceIte, reduceCtorEq, Int.reduceAdd, Int.reduceSub, Int.reduceMul, Int.reduceNeg, Int.reduceToNat, List.reduceReplicate, String.reduceEq]
    exact DFin.dropA r1 hr1 (DFin.refl ⟨by rw [textID, hm]; rfl, rfl⟩)
  | true =>
    have hop : 1 ≤ x.op ∧ x.op ≤ 57 := by have := mayI_at hm; omega
    have hrr := (rrAt_op (o := x.op) (by simp [isO]; omega)).2
    simp (disch := omega) only [go_sem, Nat.reduceEqDiff, Nat.reduceAdd, Nat.reduceMul, Nat.reduceSub, Nat.reduceLeDiff, ↓reduceIte, reduceCtorEq, Int.reduceAdd, Int.reduceSub, Int.reduceMul, Int.reduceNeg, Int.reduceToNat, List.reduceReplicate, String.reduceEq, hx0]
    refine (rfind_spec G _ x.op p0 p1).mono ?_
    rintro _ H1 ⟨rfl, rfl⟩
    rw [dRRow_at, hrr]
    simp (disch := omega) only [go_sem, Nat.reduceEqDiff, Nat.reduceAdd, Nat.reduceMul, Nat.reduceSub, Nat.reduceLeDiff, ↓reduceIte, reduceCtorEq, Int.reduceAdd, Int.reduceSub, Int.reduceMul, Int.reduceNeg, Int.reduceToNat, List.reduceReplicate, String.reduceEq, DVal.cells]
    intro r4 hr4; dsimp only at hr4
    obtain ⟨m2, m1, hr4'⟩ := upd_eq_none.1 hr4
    simp (disch := omega) only [go_sem, Nat.reduceEqDiff, Nat.reduceAdd, Nat.reduceMul, Nat.reduceSub, Nat.reduceLeDiff, ↓reduceIte, reduceCtorEq, Int.reduceAdd, Int.reduceSub, Int.reduceMul, Int.reduceNeg, Int.reduceToNat, List.reduceReplicate, String.reduceEq, m1, m2]
    obtain ⟨I, hI⟩ : ∃ I : Nat → (Nat → DVal) → DHeap → Prop, ∀ k env heap, I k env heap ↔ (env 1 = .optr r1 0 ∧ env 4 = .optr r4 0 ∧ env 6 = .str (textIk x k) ∧ env 7 = dI k ∧ k ≤ (fieldsI x.op).length ∧ heap = upd (upd H r1 (some (.cells (dInsn x) 53))) r4 (some (.cells [.int .u8 (rrAt x.op).1, .str (nameC x.op.toNat), .vslice ((fieldsI x.op).flatMap dFld) (fieldsI x.op).length] 65))) := ⟨_, fun _ _ _ => Iff.rfl⟩
    refine DLoop.run I (fun k => (fieldsI x.op).length - k) 0 ((hI _ _ _).2 ?_) ?_
    · simp (disch := omega) only [go_sem, Nat.reduceEqDiff, Nat.reduceAdd, Nat.reduceMul, Nat.reduceSub, Nat.reduceLeDiff, ↓reduceIte, reduceCtorEq, Int.reduceAdd, Int.reduceSub, Int.reduceMul, Int.reduceNeg, Int.reduceToNat, List.reduceReplicate, String.reduceEq]
      (repeat' apply And.intro) <;> (try first | rfl | assumption | omega)
      all_goals (try simp [textIk, numsF])
    · intro k env heap hi
      obtain ⟨e1, e4, e6, e7, hk, rfl⟩ := (hI _ _ _).1 hi
      by_cases hlt : k < (fieldsI x.op).length
      · have hfk := List.getElem?_eq_getElem hlt
        have hg0 : ((fieldsI x.op).flatMap dFld)[k * 3]? = (dFld (fieldsI x.op)[k])[0]? := flat_get dFld_length (fieldsI x.op) k hlt 0 (by omega)
        obtain ⟨p, hp⟩ : ∃ p, (fieldsI x.op)[k] = p := ⟨_, rfl⟩
        rw [hp] at hfk hg0
        have hpF := (hfok p (List.mem_of_getElem? hfk)).1
        have hw := mayI_w hm p (List.mem_of_getElem? hfk)
        have htl := textIk_len hm k
        have hil := itoa_len hw
        have hts := textIk_succ hfk
        simp (disch := omega) only [go_sem, Nat.reduceEqDiff, Nat.reduceAdd, Nat.reduceMul, Nat.reduceSub, Nat.reduceLeDiff, ↓reduceIte, reduceCtorEq, Int.reduceAdd, Int.reduceSub, Int.reduceMul, Int.reduceNeg, Int.reduceToNat, List.reduceReplicate, String.reduceEq, e1, e4, e6, e7, hlt, m1, m2]
        refine dwp_draws (by kernel_rfl) (.take 0 (.take 1 (.take 2 (.take 3 (.take 4 (.take 5 (.take 6 (.take 7 (.take 8 (.go 9 [4] (.go 10 [8, 4, 2] (.take 11 (.take 12 .done))))))))))))) (by kernel_rfl) ?_
        simp (disch := omega) only [go_sem, Nat.reduceEqDiff, Nat.reduceAdd, Nat.reduceMul, Nat.reduceSub, Nat.reduceLeDiff, ↓reduceIte, reduceCtorEq, Int.reduceAdd, Int.reduceSub, Int.reduceMul, Int.reduceNeg, Int.reduceToNat, List.reduceReplicate, String.reduceEq, e1, e4, e6, e7, hlt, m1, m2, hdt, dInsn_len, flat_len dFld_length, hg0, dFld, List.length_append, List.length_cons, List.length_nil]
        refine (value_spec G _ x p.1 hpF).mono ?_
        rintro _ H1 ⟨rfl, rfl⟩
        simp (disch := omega) only [go_sem, Nat.reduceEqDiff, Nat.reduceAdd, Nat.reduceMul, Nat.reduceSub, Nat.reduceLeDiff, ↓reduceIte, reduceCtorEq, Int.reduceAdd, Int.reduceSub, Int.reduceMul, Int.reduceNeg, Int.reduceToNat, List.reduceReplicate, String.reduceEq, e1, e4, e6, e7]
        refine (rint_spec G _ (getI x p.1) hw).mono ?_
        rintro _ H1 ⟨rfl, rfl⟩
        simp (disch := omega) only [go_sem, Nat.reduceEqDiff, Nat.reduceAdd, Nat.reduceMul, Nat.reduceSub, Nat.reduceLeDiff, ↓reduceIte, reduceCtorEq, Int.reduceAdd, Int.reduceSub, Int.reduceMul, Int.reduceNeg, Int.reduceToNat, List.reduceReplicate, String.reduceEq, e1, e4, e6, e7, List.length_append, List.length_cons, List.length_nil]
        refine ⟨k + 1, _, GhostS.refl _, (hI _ _ _).2 ?_, by omega⟩
        simp (disch := omega) only [go_sem, Nat.reduceEqDiff, Nat.reduceAdd, Nat.reduceMul, Nat.reduceSub, Nat.reduceLeDiff, ↓reduceIte, reduceCtorEq, Int.reduceAdd, Int.reduceSub, Int.reduceMul, Int.reduceNeg, Int.reduceToNat, List.reduceReplicate, String.reduceEq, e1, e4, e6, e7]
        (repeat' apply And.intro) <;> (try first | rfl | assumption | omega)
        rw [hts]; simp
      · have hkl : k = (fieldsI x.op).length := by omega
        subst hkl
        rw [textIk_all] at e6
        simp (disch := omega) only [go_sem, Nat.reduceEqDiff, Nat.reduceAdd, Nat.reduceMul, Nat.reduceSub, Nat.reduceLeDiff, ↓reduceIte, reduceCtorEq, Int.reduceAdd, Int.reduceSub, Int.reduceMul, Int.reduceNeg, Int.reduceToNat, List.reduceReplicate, String.reduceEq, e1, e4, e6, e7, m1, m2]
        exact DFin.sub (show Sub H _ from (by repeat (first | exact Sub.refl _ | assumption | refine Sub.up ?_ (by assumption) _))) (DFin.refl ⟨by rw [textID, hm]; rfl, rfl⟩)
end Go.Dl

-- Chapter 22: Split, Raises, integers as bytes, numbers.
namespace Go.Dl
open Go Go.Proofs
set_option maxRecDepth 10000

/-- The pieces between the bytes c. -/
def splitBy (c : UInt8) : List UInt8 → List UInt8 → List (List UInt8)
  | [], cur => [cur]
  | b :: s, cur => if b = c then cur :: splitBy c s [] else splitBy c s (cur ++ [b])
theorem splitBy_32 : ∀ (s cur : List UInt8), splitBy 32 s cur = splitL s cur
  | [], cur => rfl
  | b :: s, cur => by rw [splitBy, splitL, splitBy_32 s [], splitBy_32 s (cur ++ [b])]
theorem splitBy_no (c : UInt8) (w : List UInt8) (h : c ∉ w) : ∀ cur, splitBy c w cur = [cur ++ w] := by
  induction w with
  | nil => intro cur; simp [splitBy]
  | cons b w ih =>
    intro cur
    simp only [List.mem_cons, not_or] at h
    rw [splitBy, if_neg (fun e => h.1 e.symm), ih h.2]; simp
theorem splitBy_at (c : UInt8) (w r : List UInt8) (h : c ∉ w) : ∀ cur, splitBy c (w ++ c :: r) cur = (cur ++ w) :: splitBy c r [] := by
  induction w with
  | nil => intro cur; simp [splitBy]
  | cons b w ih =>
    intro cur
    simp only [List.mem_cons, not_or] at h
    rw [List.cons_append, splitBy, if_neg (fun e => h.1 e.symm), ih h.2]; simp
theorem first_of (c : UInt8) : ∀ {s : List UInt8}, c ∈ s → ∃ a r, s = a ++ c :: r ∧ c ∉ a
  | [], h => by cases h
  | b :: s, h => by
    by_cases e : b = c
    · exact ⟨[], s, by rw [e]; rfl, by simp⟩
    · obtain ⟨a, r, rfl, ha⟩ := first_of c ((List.mem_cons.1 h).resolve_left (Ne.symm e))
      exact ⟨b :: a, r, rfl, by simp [ha, Ne.symm e]⟩
theorem splitB_words (c : UInt8) : ∀ (k : Nat) (s : List UInt8), s.count c ≤ k → (Lib.splitB ⟨#[c]⟩ 0 k ⟨⟨s⟩⟩).map (fun b => b.data.toList) = splitBy c s []
  | 0, s, h => by
    have : c ∉ s := fun hm => by have := List.count_pos_iff.2 hm; omega
    rw [splitBy_no c s this, Lib.splitB_zero]; simp
  | k + 1, s, h => by
    by_cases hm : c ∈ s
    · obtain ⟨a, r, rfl, ha⟩ := first_of c hm
      have hix : Lib.indexB ⟨⟨a ++ c :: r⟩⟩ ⟨#[c]⟩ = a.length := index_at a r c ha
      have hcr : r.count c ≤ k := by
        rw [List.count_append, List.count_cons_self] at h; omega
      have e1 : ((ByteArray.mk ⟨a ++ c :: r⟩).extract 0 ((a.length : Int).toNat + 0)).data.toList = a := by
        rw [ByteArray.data_extract]; simp
      have e2 : (ByteArray.mk ⟨a ++ c :: r⟩).extract ((a.length : Int).toNat + (ByteArray.mk #[c]).size) (ByteArray.mk ⟨a ++ c :: r⟩).size = ByteArray.mk ⟨r⟩ := by
        apply ByteArray.ext
        rw [ByteArray.data_extract]
        apply Array.ext'
        simp [ByteArray.size]
        exact List.take_of_length_le (by omega)
      rw [splitBy_at c a r ha, List.nil_append, Lib.splitB, hix, if_neg (by simp), List.map_cons, e1, e2, splitB_words c k r hcr]
    · have hix : Lib.indexB ⟨⟨s⟩⟩ ⟨#[c]⟩ = -1 := index_no s c hm
      rw [splitBy_no c s hm, Lib.splitB_miss _ _ _ _ hix]; simp

section
variable {G : Nat → DVal} {H : DHeap}
/-- strings.Split by one byte: the pieces, as memory that lasts. -/
theorem split_spec (hG : GT G) (s : List UInt8) (c : UInt8) (hs : s.length < 4294967281) : DCalls Tryd.prog G 71 [.str s, .str [c]] H (DRet (dStrs (splitBy c s [])) H) := by
  refine ⟨Tryd.call71, fun vs w hv hH hg => ?_⟩
  simp only [RelL, Rel] at hv
  obtain ⟨_, _, rfl, rfl, _, _, rfl, rfl, rfl⟩ := hv
  obtain ⟨m, e1⟩ := hG.maxLen
  obtain ⟨x, cx, rx⟩ := var_cell hg e1
  simp only [Rel] at rx; subst rx
  refine (Tryd.strings_Split ⟨⟨s⟩⟩ ⟨#[c]⟩ m w hs cx (by simp [ByteArray.size])).mono fun e w' ⟨he, hw⟩ => ?_
  have hcnt : Lib.countB ⟨⟨s⟩⟩ ⟨#[c]⟩ = s.count c := Lib.count_one c s
  have hall := Lib.splitB_all ⟨#[c]⟩ (by simp [ByteArray.size]) 0 _ ⟨⟨s⟩⟩ rfl
  have hws := splitB_words c (Lib.countB ⟨⟨s⟩⟩ ⟨#[c]⟩) s (by rw [hcnt]; exact Nat.le_refl _)
  have hlen : (splitBy c s []).length = Lib.countB ⟨⟨s⟩⟩ ⟨#[c]⟩ + 1 := by rw [← hws, List.length_map, hall]
  generalize hsb : Lib.splitB ⟨#[c]⟩ 0 (Lib.countB ⟨⟨s⟩⟩ ⟨#[c]⟩) ⟨⟨s⟩⟩ = bs at hw hall hws
  rw [← hlen] at he
  subst he; subst hw
  have hq : RowKit.Below w.heap.size w (w.alloc (.cells (bs.map Value.string).toArray 9)) := RowKit.Below.alloc (RowKit.Below.refl _ _) (Nat.le_refl _) _
  obtain ⟨k1, k2⟩ := (Quiet.below hq).ext hH
  refine ⟨_, H, ⟨rfl, rfl⟩, .ret _ _ ?_, k1, k2⟩
  simp only [dStrs, Rel]
  refine ⟨_, _, by rfl, Nat.le_refl _, .inr ⟨w.heap.size, 0, bs.map Value.string, rfl, .inr ⟨?_, fun i x hx => ?_⟩, ?_⟩⟩
  · cases e : H w.heap.size with
    | none => rfl
    | some o => exact absurd (hH.lt (r := w.heap.size) (by simp [e])) (by omega)
  · rw [Nat.zero_add, World.cell?, World.alloc_heap_new]
    simpa using hx
  · rw [← hws]
    refine RelL.mk (by simp) fun i d x h1 h2 => ?_
    simp only [List.getElem?_map, Option.map_eq_some_iff] at h1 h2
    obtain ⟨b1, ⟨b0, q0, rfl⟩, rfl⟩ := h1
    obtain ⟨b2, q2, rfl⟩ := h2
    rw [q0] at q2; cases q2
    simp only [Rel]

def raisesL : List Int := [27, 28, 33, 34, 35, 38, 49, 50, 53, 54]
def raisesC (o : Int) : Bool := decide (o ∈ raisesL)
theorem raises_spec (o : Int) : DCalls Tryd.prog G 40 [.int .u8 o] H (DRet (.bool (raisesC o)) H) := by
  have key : ∀ b, raisesC o = b → DCalls Tryd.prog G 40 [.int .u8 o] H (DRet (.bool b) H) := fun b hb => by
    refine dcalls_intro Tryd.func40 Tryd.call40 rfl (by kernel_rfl) ?_
    by_cases c1 : o = 27
    · subst c1; cases hb; simp (disch := omega) only [go_sem, Nat.reduceEqDiff, Nat.reduceAdd, Nat.reduceMul, Nat.reduceSub, Nat.reduceLeDiff, ↓reduceIte, reduceCtorEq, Int.reduceAdd, Int.reduceSub, Int.reduceMul, Int.reduceNeg, Int.reduceToNat, List.reduceReplicate, String.reduceEq]; exact DFin.refl ⟨rfl, rfl⟩
    by_cases c2 : o = 28
    · subst c2; cases hb; simp (disch := omega) only [go_sem, Nat.reduceEqDiff, Nat.reduceAdd, Nat.reduceMul, Nat.reduceSub, Nat.reduceLeDiff, ↓reduceIte, reduceCtorEq, Int.reduceAdd, Int.reduceSub, Int.reduceMul, Int.reduceNeg, Int.reduceToNat, List.reduceReplicate, String.reduceEq]; exact DFin.refl ⟨rfl, rfl⟩
    by_cases c3 : o = 33
    · subst c3; cases hb; simp (disch := omega) only [go_sem, Nat.reduceEqDiff, Nat.reduceAdd, Nat.reduceMul, Nat.reduceSub, Nat.reduceLeDiff, ↓reduceIte, reduceCtorEq, Int.reduceAdd, Int.reduceSub, Int.reduceMul, Int.reduceNeg, Int.reduceToNat, List.reduceReplicate, String.reduceEq]; exact DFin.refl ⟨rfl, rfl⟩
    by_cases c4 : o = 34
    · subst c4; cases hb; simp (disch := omega) only [go_sem, Nat.reduceEqDiff, Nat.reduceAdd, Nat.reduceMul, Nat.reduceSub, Nat.reduceLeDiff, ↓reduceIte, reduceCtorEq, Int.reduceAdd, Int.reduceSub, Int.reduceMul, Int.reduceNeg, Int.reduceToNat, List.reduceReplicate, String.reduceEq]; exact DFin.refl ⟨rfl, rfl⟩
    by_cases c5 : o = 35
    · subst c5; cases hb; simp (disch := omega) only [go_sem, Nat.reduceEqDiff, Nat.reduceAdd, Nat.reduceMul, Nat.reduceSub, Nat.reduceLeDiff, ↓reduceIte, reduceCtorEq, Int.reduceAdd, Int.reduceSub, Int.reduceMul, Int.reduceNeg, Int.reduceToNat, List.reduceReplicate, String.reduceEq]; exact DFin.refl ⟨rfl, rfl⟩
    by_cases c6 : o = 38
    · subst c6; cases hb; simp (disch := omega) only [go_sem, Nat.reduceEqDiff, Nat.reduceAdd, Nat.reduceMul, Nat.reduceSub, Nat.reduceLeDiff, ↓reduceIte, reduceCtorEq, Int.reduceAdd, Int.reduceSub, Int.reduceMul, Int.reduceNeg, Int.reduceToNat, List.reduceReplicate, String.reduceEq]; exact DFin.refl ⟨rfl, rfl⟩
    by_cases c7 : o = 49
    · subst c7; cases hb; simp (disch := omega) only [go_sem, Nat.reduceEqDiff, Nat.reduceAdd, Nat.reduceMul, Nat.reduceSub, Nat.reduceLeDiff, ↓reduceIte, reduceCtorEq, Int.reduceAdd, Int.reduceSub, Int.reduceMul, Int.reduceNeg, Int.reduceToNat, List.reduceReplicate, String.reduceEq]; exact DFin.refl ⟨rfl, rfl⟩
    by_cases c8 : o = 50
    · subst c8; cases hb; simp (disch := omega) only [go_sem, Nat.reduceEqDiff, Nat.reduceAdd, Nat.reduceMul, Nat.reduceSub, Nat.reduceLeDiff, ↓reduceIte, reduceCtorEq, Int.reduceAdd, Int.reduceSub, Int.reduceMul, Int.reduceNeg, Int.reduceToNat, List.reduceReplicate, String.reduceEq]; exact DFin.refl ⟨rfl, rfl⟩
    by_cases c9 : o = 53
    · subst c9; cases hb; simp (disch := omega) only [go_sem, Nat.reduceEqDiff, Nat.reduceAdd, Nat.reduceMul, Nat.reduceSub, Nat.reduceLeDiff, ↓reduceIte, reduceCtorEq, Int.reduceAdd, Int.reduceSub, Int.reduceMul, Int.reduceNeg, Int.reduceToNat, List.reduceReplicate, String.reduceEq]; exact DFin.refl ⟨rfl, rfl⟩
    by_cases c10 : o = 54
    · subst c10; cases hb; simp (disch := omega) only [go_sem, Nat.reduceEqDiff, Nat.reduceAdd, Nat.reduceMul, Nat.reduceSub, Nat.reduceLeDiff, ↓reduceIte, reduceCtorEq, Int.reduceAdd, Int.reduceSub, Int.reduceMul, Int.reduceNeg, Int.reduceToNat, List.reduceReplicate, String.reduceEq]; exact DFin.refl ⟨rfl, rfl⟩
    simp (disch := omega) only [go_sem, Nat.reduceEqDiff, Nat.reduceAdd, Nat.reduceMul, Nat.reduceSub, Nat.reduceLeDiff, ↓reduceIte, reduceCtorEq, Int.reduceAdd, Int.reduceSub, Int.reduceMul, Int.reduceNeg, Int.reduceToNat, List.reduceReplicate, String.reduceEq, c1, c2, c3, c4, c5, c6, c7, c8, c9, c10]
    have : raisesC o = false := by simp [raisesC, raisesL, c1, c2, c3, c4, c5, c6, c7, c8, c9, c10]
    exact DFin.refl ⟨by rw [← hb, this], rfl⟩
  exact key _ rfl
theorem rraises_spec (o : Int) : DCalls Tryd.prog G 41 [.int .u8 o] H (DRet (.bool (raisesC o)) H) := by
  refine dcalls_intro Tryd.func41 Tryd.call41 rfl (by kernel_rfl) ?_
  simp (disch := omega) only [go_sem, Nat.reduceEqDiff, Nat.reduceAdd, Nat.reduceMul, Nat.reduceSub, Nat.reduceLeDiff, ↓reduceIte, reduceCtorEq, Int.reduceAdd, Int.reduceSub, Int.reduceMul, Int.reduceNeg, Int.reduceToNat, List.reduceReplicate, String.reduceEq]
  intro r hr; dsimp only at hr
  simp (disch := omega) only [go_sem, Nat.reduceEqDiff, Nat.reduceAdd, Nat.reduceMul, Nat.reduceSub, Nat.reduceLeDiff, ↓reduceIte, reduceCtorEq, Int.reduceAdd, Int.reduceSub, Int.reduceMul, Int.reduceNeg, Int.reduceToNat, List.reduceReplicate, String.reduceEq]
  obtain ⟨I, hI⟩ : ∃ I : Nat → (Nat → DVal) → DHeap → Prop, ∀ k env heap, I k env heap ↔ (env 0 = .int .u8 o ∧ env 3 = .oslice 1 r 0 10 10 ∧ env 4 = dI k ∧ k ≤ 10 ∧ heap = upd H r (some (.cells (raisesL.map (.int .u8)) 24)) ∧ ∀ y ∈ raisesL.take k, y ≠ o) := ⟨_, fun _ _ _ => Iff.rfl⟩
  refine DLoop.run I (fun k => 10 - k) 0 ((hI _ _ _).2 ?_) ?_
  · simp (disch := omega) only [go_sem, Nat.reduceEqDiff, Nat.reduceAdd, Nat.reduceMul, Nat.reduceSub, Nat.reduceLeDiff, ↓reduceIte, reduceCtorEq, Int.reduceAdd, Int.reduceSub, Int.reduceMul, Int.reduceNeg, Int.reduceToNat, List.reduceReplicate, String.reduceEq]
    (repeat' apply And.intro) <;> (try first | rfl | assumption | omega)
    all_goals (try simp)
  · intro k env heap hi
    obtain ⟨e0, e3, e4, hk, rfl, hn⟩ := (hI _ _ _).1 hi
    by_cases hlt : k < 10
    · have hl : k < raisesL.length := hlt
      have hget : (raisesL.map (DVal.int .u8))[k]? = some (.int .u8 raisesL[k]) := by rw [List.getElem?_map, List.getElem?_eq_getElem hl]; rfl
      by_cases c : raisesL[k] = o
      · simp (disch := omega) only [go_sem, Nat.reduceEqDiff, Nat.reduceAdd, Nat.reduceMul, Nat.reduceSub, Nat.reduceLeDiff, ↓reduceIte, reduceCtorEq, Int.reduceAdd, Int.reduceSub, Int.reduceMul, Int.reduceNeg, Int.reduceToNat, List.reduceReplicate, String.reduceEq, e0, e3, e4, hlt, hget, c]
        exact DFin.dropA r hr (DFin.refl ⟨by rw [show raisesC o = true from decide_eq_true (c ▸ List.getElem_mem hl)], rfl⟩)
      · simp (disch := omega) only [go_sem, Nat.reduceEqDiff, Nat.reduceAdd, Nat.reduceMul, Nat.reduceSub, Nat.reduceLeDiff, ↓reduceIte, reduceCtorEq, Int.reduceAdd, Int.reduceSub, Int.reduceMul, Int.reduceNeg, Int.reduceToNat, List.reduceReplicate, String.reduceEq, e0, e3, e4, hlt, hget, c]
        refine ⟨k + 1, _, GhostS.refl _, (hI _ _ _).2 ?_, by omega⟩
        simp (disch := omega) only [go_sem, Nat.reduceEqDiff, Nat.reduceAdd, Nat.reduceMul, Nat.reduceSub, Nat.reduceLeDiff, ↓reduceIte, reduceCtorEq, Int.reduceAdd, Int.reduceSub, Int.reduceMul, Int.reduceNeg, Int.reduceToNat, List.reduceReplicate, String.reduceEq, e0, e3, e4]
        (repeat' apply And.intro) <;> (try first | rfl | assumption | omega)
        exact take_next hl hn c
    · have : k = 10 := by omega
      subst this
      simp (disch := omega) only [go_sem, Nat.reduceEqDiff, Nat.reduceAdd, Nat.reduceMul, Nat.reduceSub, Nat.reduceLeDiff, ↓reduceIte, reduceCtorEq, Int.reduceAdd, Int.reduceSub, Int.reduceMul, Int.reduceNeg, Int.reduceToNat, List.reduceReplicate, String.reduceEq, e0, e3, e4]
      refine DFin.dropA r hr (DFin.refl ⟨?_, rfl⟩)
      rw [show raisesC o = false from decide_eq_false (fun h => hn o h rfl)]
end
end Go.Dl

-- Chapter 22: integers as eight bytes.
namespace Go.Dl
open Go Go.Proofs
set_option maxRecDepth 10000

theorem leB_get : ∀ (k u j : Nat), j < k → (leB k u)[j]? = some (UInt8.ofNat (u / 256 ^ j % 256))
  | 0, _, _, h => by omega
  | k + 1, u, 0, _ => by simp [leB]
  | k + 1, u, j + 1, h => by
    rw [leB, List.getElem?_cons_succ, leB_get k (u / 256) j (by omega), Nat.div_div_eq_div_mul, Nat.pow_succ, Nat.mul_comm]
theorem leB_snoc (k u : Nat) : leB (k + 1) u = leB k u ++ [UInt8.ofNat (u / 256 ^ k % 256)] := by
  apply List.ext_getElem?
  intro j
  by_cases h : j < k
  · rw [leB_get _ _ _ (by omega), List.getElem?_append_left (by rw [leB_length]; exact h), leB_get _ _ _ h]
  · by_cases h2 : j = k
    · subst h2
      rw [leB_get _ _ _ (by omega), List.getElem?_append_right (by rw [leB_length]; omega), leB_length, Nat.sub_self]; rfl
    · rw [List.getElem?_eq_none (by rw [leB_length]; omega), List.getElem?_eq_none (by simp [leB_length]; omega)]
def e64 (v : Int) : Nat := (v % 18446744073709551616).toNat
theorem eight_get {v : Int} {i : Nat} (h : i < 8) : (eightL v)[i]? = some (UInt8.ofNat (e64 v / 256 ^ i % 256)) := leB_get 8 _ i h
theorem eight_byte (v : Int) {i : Nat} (h : i < 8) : IntKind.u8.wrap (v.fdiv (2 ^ (8 * i))) = ((e64 v / 256 ^ i % 256 : Nat) : Int) := by
  rw [Int.fdiv_eq_ediv_of_nonneg _ (Int.le_of_lt (Int.pow_pos (by omega))), IntKind.wrap_u8, e64]
  match i, h with
  | 0, _ => simp only [Nat.mul_zero, Int.pow_zero, Nat.pow_zero]; omega
  | 1, _ => simp only [Nat.reduceMul, Nat.reducePow, Int.reducePow]; omega
  | 2, _ => simp only [Nat.reduceMul, Nat.reducePow, Int.reducePow]; omega
  | 3, _ => simp only [Nat.reduceMul, Nat.reducePow, Int.reducePow]; omega
  | 4, _ => simp only [Nat.reduceMul, Nat.reducePow, Int.reducePow]; omega
  | 5, _ => simp only [Nat.reduceMul, Nat.reducePow, Int.reducePow]; omega
  | 6, _ => simp only [Nat.reduceMul, Nat.reducePow, Int.reducePow]; omega
  | 7, _ => simp only [Nat.reduceMul, Nat.reducePow, Int.reducePow]; omega

theorem fill_set {α : Type} (L : List α) (z : α) {i : Nat} (h : i < L.length) : (L.take i ++ List.replicate (L.length - i) z).set i L[i] = L.take (i + 1) ++ List.replicate (L.length - (i + 1)) z := by
  have h1 : (L.take i).length = i := by simp; omega
  rw [List.set_append_right _ _ (by omega), h1, Nat.sub_self, show L.length - i = (L.length - (i + 1)) + 1 by omega, List.replicate_succ, List.set_cons_zero, List.take_succ_eq_append_getElem h, List.append_assoc]
  rfl
def fill8 (v : Int) (i : Nat) : List UInt8 := (eightL v).take i ++ List.replicate (8 - i) 0
theorem fill8_len {v : Int} {i : Nat} (h : i ≤ 8) : (fill8 v i).length = 8 := by
  rw [fill8, List.length_append, List.length_take, eightL_length, List.length_replicate]; omega
theorem fill8_set {v : Int} {i : Nat} (h : i < 8) : (fill8 v i).set i (UInt8.ofNat (e64 v / 256 ^ i % 256)) = fill8 v (i + 1) := by
  have hl : i < (eightL v).length := by rw [eightL_length]; exact h
  have := fill_set (eightL v) 0 hl
  rw [eightL_length] at this
  have hg := eight_get (v := v) h
  rw [List.getElem?_eq_getElem hl] at hg
  rw [Option.some.inj hg] at this
  exact this

section
variable {G : Nat → DVal} {H : DHeap}
theorem eight_spec (v : Int) (hv : I64 v) : DCalls Tryd.prog G 64 [dI v] H (DRet (.vslice (dBy (eightL v)) 8) H) := by
  refine dcalls_intro Tryd.func64 Tryd.call64 rfl (by kernel_rfl) ?_
  simp (disch := omega) only [go_sem, Nat.reduceEqDiff, Nat.reduceAdd, Nat.reduceMul, Nat.reduceSub, Nat.reduceLeDiff, ↓reduceIte, reduceCtorEq, Int.reduceAdd, Int.reduceSub, Int.reduceMul, Int.reduceNeg, Int.reduceToNat, List.reduceReplicate, String.reduceEq]
  intro r hr; dsimp only at hr
  simp (disch := omega) only [go_sem, Nat.reduceEqDiff, Nat.reduceAdd, Nat.reduceMul, Nat.reduceSub, Nat.reduceLeDiff, ↓reduceIte, reduceCtorEq, Int.reduceAdd, Int.reduceSub, Int.reduceMul, Int.reduceNeg, Int.reduceToNat, List.reduceReplicate, String.reduceEq]
  obtain ⟨I, hI⟩ : ∃ I : Nat → (Nat → DVal) → DHeap → Prop, ∀ i env heap, I i env heap ↔ (env 0 = dI v ∧ env 3 = .oslice 1 r 0 8 8 ∧ env 7 = dI 8 ∧ env 8 = dI i ∧ i ≤ 8 ∧ heap = upd H r (some (.cells (dBy (fill8 v i)) 5))) := ⟨_, fun _ _ _ => Iff.rfl⟩
  refine DLoop.run I (fun i => 8 - i) 0 ((hI _ _ _).2 ?_) ?_
  · simp (disch := omega) only [go_sem, Nat.reduceEqDiff, Nat.reduceAdd, Nat.reduceMul, Nat.reduceSub, Nat.reduceLeDiff, ↓reduceIte, reduceCtorEq, Int.reduceAdd, Int.reduceSub, Int.reduceMul, Int.reduceNeg, Int.reduceToNat, List.reduceReplicate, String.reduceEq]
    (repeat' apply And.intro) <;> (try first | rfl | assumption | omega)
  · intro i env heap hi
    obtain ⟨e0, e3, e7, e8, hi8, rfl⟩ := (hI _ _ _).1 hi
    by_cases hlt : i < 8
    · have hm : IntKind.i64.wrap (8 * (i : Int)) = ((8 * i : Nat) : Int) := by rw [IntKind.wrap_i64]; omega
      have hb := eight_byte v hlt
      have hmin : min (8 * i) 64 = 8 * i := Nat.min_eq_left (by omega)
      have hset := splice_setA (fun b : UInt8 => DVal.int .u8 b.toNat) (fill8 v i) i (UInt8.ofNat (e64 v / 256 ^ i % 256)) (by rw [fill8_len hi8]; exact hlt)
      rw [fill8_set hlt] at hset
      have hto : ((UInt8.ofNat (e64 v / 256 ^ i % 256)).toNat : Int) = ((e64 v / 256 ^ i % 256 : Nat) : Int) := by rw [UInt8.toNat_ofNat']; omega
      rw [hto] at hset
      have hfl : (dBy (fill8 v i)).length = 8 := by rw [dBy_length, fill8_len hi8]
      rw [str_dBy, str_dBy] at hset
      simp (disch := omega) only [go_sem, Nat.reduceEqDiff, Nat.reduceAdd, Nat.reduceMul, Nat.reduceSub, Nat.reduceLeDiff, ↓reduceIte, reduceCtorEq, Int.reduceAdd, Int.reduceSub, Int.reduceMul, Int.reduceNeg, Int.reduceToNat, List.reduceReplicate, String.reduceEq, e0, e3, e7, e8, hlt, hm, hmin, hb, hfl, hset, List.length_cons, List.length_nil]
      refine ⟨i + 1, _, GhostS.refl _, (hI _ _ _).2 ?_, by omega⟩
      simp (disch := omega) only [go_sem, Nat.reduceEqDiff, Nat.reduceAdd, Nat.reduceMul, Nat.reduceSub, Nat.reduceLeDiff, ↓reduceIte, reduceCtorEq, Int.reduceAdd, Int.reduceSub, Int.reduceMul, Int.reduceNeg, Int.reduceToNat, List.reduceReplicate, String.reduceEq, e0, e3, e7, e8]
      (repeat' apply And.intro) <;> (try first | rfl | assumption | omega)
    · have : i = 8 := by omega
      subst this
      have hf : fill8 v 8 = eightL v := by
        rw [fill8, Nat.sub_self, List.replicate_zero, List.append_nil]; exact List.take_of_length_le (by rw [eightL_length]; omega)
      rw [hf]
      simp (disch := omega) only [go_sem, Nat.reduceEqDiff, Nat.reduceAdd, Nat.reduceMul, Nat.reduceSub, Nat.reduceLeDiff, ↓reduceIte, reduceCtorEq, Int.reduceAdd, Int.reduceSub, Int.reduceMul, Int.reduceNeg, Int.reduceToNat, List.reduceReplicate, String.reduceEq, e0, e3, e7, e8]
      refine DFin.fzA r hr ?_
      simp (disch := omega) only [go_sem, Nat.reduceEqDiff, Nat.reduceAdd, Nat.reduceMul, Nat.reduceSub, Nat.reduceLeDiff, ↓reduceIte, reduceCtorEq, Int.reduceAdd, Int.reduceSub, Int.reduceMul, Int.reduceNeg, Int.reduceToNat, List.reduceReplicate, String.reduceEq, List.drop_zero]
      refine DFin.refl ⟨?_, rfl⟩
      rw [List.take_of_length_le (by rw [dBy_length, eightL_length]; omega)]
theorem reight_spec (v : Int) (hv : I64 v) : DCalls Tryd.prog G 65 [dI v] H (DRet (.vslice (dBy (eightL v)) 8) H) := by
  have hw : IntKind.u64.wrap v = ((e64 v : Nat) : Int) := by rw [IntKind.wrap_u64, e64]; omega
  have he : e64 v < 18446744073709551616 := by rw [e64]; omega
  refine dcalls_intro Tryd.func65 Tryd.call65 rfl (by kernel_rfl) ?_
  simp (disch := omega) only [go_sem, Nat.reduceEqDiff, Nat.reduceAdd, Nat.reduceMul, Nat.reduceSub, Nat.reduceLeDiff, ↓reduceIte, reduceCtorEq, Int.reduceAdd, Int.reduceSub, Int.reduceMul, Int.reduceNeg, Int.reduceToNat, List.reduceReplicate, String.reduceEq, hw]
  obtain ⟨I, hI⟩ : ∃ I : Nat → (Nat → DVal) → DHeap → Prop, ∀ i env heap, I i env heap ↔ (env 0 = dI v ∧ env 4 = .int .u64 ((e64 v / 256 ^ i : Nat) : Int) ∧ env 5 = dI i ∧ i ≤ 8 ∧ OwnJ H 5 1 i (dBy (leB i (e64 v))) (env 3) heap) := ⟨_, fun _ _ _ => Iff.rfl⟩
  refine DLoop.run I (fun i => 8 - i) 0 ((hI _ _ _).2 ?_) ?_
  · simp (disch := omega) only [go_sem, Nat.reduceEqDiff, Nat.reduceAdd, Nat.reduceMul, Nat.reduceSub, Nat.reduceLeDiff, ↓reduceIte, reduceCtorEq, Int.reduceAdd, Int.reduceSub, Int.reduceMul, Int.reduceNeg, Int.reduceToNat, List.reduceReplicate, String.reduceEq]
    (repeat' apply And.intro) <;> (try first | rfl | assumption | omega)
    all_goals first | exact OwnJ.nil _ _ (Sub.refl _) | simp
  · intro i env heap hi
    obtain ⟨e0, e4, e5, hi8, hv⟩ := (hI _ _ _).1 hi
    by_cases hlt : i < 8
    · have hd : e64 v / 256 ^ i ≤ e64 v := Nat.div_le_self _ _
      generalize hu : e64 v / 256 ^ i = u at e4 hd
      have hm : (u : Int).tmod 256 = ((u % 256 : Nat) : Int) := by rw [Int.tmod_eq_emod_of_nonneg (by omega)]; omega
      have hq : (u : Int).tdiv 256 = ((u / 256 : Nat) : Int) := by rw [Int.tdiv_eq_ediv_of_nonneg (by omega)]; omega
      have hw1 : IntKind.u8.wrap ((u % 256 : Nat) : Int) = ((u % 256 : Nat) : Int) := by rw [IntKind.wrap_u8]; omega
      have hw2 : IntKind.u64.wrap ((u / 256 : Nat) : Int) = ((u / 256 : Nat) : Int) := by rw [IntKind.wrap_u64]; omega
      simp (disch := omega) only [go_sem, Nat.reduceEqDiff, Nat.reduceAdd, Nat.reduceMul, Nat.reduceSub, Nat.reduceLeDiff, ↓reduceIte, reduceCtorEq, Int.reduceAdd, Int.reduceSub, Int.reduceMul, Int.reduceNeg, Int.reduceToNat, List.reduceReplicate, String.reduceEq, e0, e4, e5, hlt, hm, hq, hw1, hw2]
      intro r hr; dsimp only at hr
      simp (disch := omega) only [go_sem, Nat.reduceEqDiff, Nat.reduceAdd, Nat.reduceMul, Nat.reduceSub, Nat.reduceLeDiff, ↓reduceIte, reduceCtorEq, Int.reduceAdd, Int.reduceSub, Int.reduceMul, Int.reduceNeg, Int.reduceToNat, List.reduceReplicate, String.reduceEq, e0, e4, e5]
      refine OwnJ.append (m := 1) (bytes := 1) (OwnJ.new hv hr _) rfl (by omega) fun v2 H2 hv2 => ?_
      simp (disch := omega) only [go_sem, Nat.reduceEqDiff, Nat.reduceAdd, Nat.reduceMul, Nat.reduceSub, Nat.reduceLeDiff, ↓reduceIte, reduceCtorEq, Int.reduceAdd, Int.reduceSub, Int.reduceMul, Int.reduceNeg, Int.reduceToNat, List.reduceReplicate, String.reduceEq, e0, e4, e5, hq, hw2]
      refine ⟨i + 1, _, GhostS.refl _, (hI _ _ _).2 ?_, by omega⟩
      simp (disch := omega) only [go_sem, Nat.reduceEqDiff, Nat.reduceAdd, Nat.reduceMul, Nat.reduceSub, Nat.reduceLeDiff, ↓reduceIte, reduceCtorEq, Int.reduceAdd, Int.reduceSub, Int.reduceMul, Int.reduceNeg, Int.reduceToNat, List.reduceReplicate, String.reduceEq, e0, e4, e5]
      (repeat' apply And.intro) <;> (try first | rfl | assumption | omega)
      · rw [Nat.pow_succ, ← Nat.div_div_eq_div_mul, hu]
      · rw [leB_snoc, hu, dBy_append]
        have : dBy [UInt8.ofNat (u % 256)] = [DVal.int .u8 ((u % 256 : Nat) : Int)] := by
          simp only [dBy, List.map_cons, List.map_nil, UInt8.toNat_ofNat']
          rw [Nat.mod_eq_of_lt (by omega)]
        rw [this]; exact hv2
    · have : i = 8 := by omega
      subst this
      simp (disch := omega) only [go_sem, Nat.reduceEqDiff, Nat.reduceAdd, Nat.reduceMul, Nat.reduceSub, Nat.reduceLeDiff, ↓reduceIte, reduceCtorEq, Int.reduceAdd, Int.reduceSub, Int.reduceMul, Int.reduceNeg, Int.reduceToNat, List.reduceReplicate, String.reduceEq, e0, e4, e5]
      exact OwnJ.fin hv ⟨rfl, rfl⟩

theorem sumB_take {b : List UInt8} {i : Nat} (h : i < b.length) : sumB (b.take (i + 1)) = sumB (b.take i) + 256 ^ i * b[i].toNat := by
  induction b generalizing i with
  | nil => simp at h
  | cons c b ih =>
    cases i with
    | zero => simp [sumB]
    | succ i =>
      have := ih (i := i) (by simpa using h)
      rw [List.take_succ_cons, List.take_succ_cons, sumB, sumB, this, List.getElem_cons_succ, Nat.pow_succ, Nat.mul_add]
      rw [Nat.mul_comm (256 ^ i) 256, Nat.mul_assoc]; omega
theorem sumB_lt : ∀ (b : List UInt8), sumB b < 256 ^ b.length
  | [] => by simp [sumB]
  | c :: b => by
    have h1 := sumB_lt b
    have h2 := c.toNat_lt
    rw [sumB, List.length_cons, Nat.pow_succ]; omega
theorem toNat_w (n : Nat) (h : n < 18446744073709551616) : (BitVec.ofInt 64 (IntKind.i64.wrap (n : Int))).toNat = n := by
  have h64 : ((2 ^ 64 : Nat) : Int) = 18446744073709551616 := by decide
  rw [BitVec.toNat_ofInt, IntKind.wrap_i64, h64]
  omega
theorem or_word {S x i : Nat} (hi : i < 8) (hS : S < 256 ^ i) (hx : x < 256) :
    IntKind.i64.wrap (BitVec.ofInt 64 (IntKind.i64.wrap (S : Int)) ||| BitVec.ofInt 64 (IntKind.i64.wrap ((x : Int) * 2 ^ (8 * i)))).toNat = IntKind.i64.wrap ((S + 256 ^ i * x : Nat) : Int) := by
  obtain ⟨P, hP⟩ : ∃ P : Nat, P = 2 ^ (8 * i) := ⟨_, rfl⟩
  have hp : 256 ^ i = P := by rw [hP, Nat.pow_mul]
  have hle : P ≤ 72057594037927936 := by
    rw [hP]; exact Nat.le_trans (Nat.pow_le_pow_right (by omega) (by omega : 8 * i ≤ 56)) (by decide)
  have hpi : (2 : Int) ^ (8 * i) = (P : Int) := by rw [hP]; exact (Int.natCast_pow 2 (8 * i)).symm
  have hxm : x * P < 18446744073709551616 := by
    have : x * P ≤ 255 * 72057594037927936 := Nat.mul_le_mul (by omega) hle
    omega
  have hor := Nat.two_pow_add_eq_or_of_lt (i := 8 * i) (b := S) (by rw [← hP, ← hp]; exact hS) x
  rw [← hP] at hor
  rw [hp] at hS ⊢
  rw [hpi, ← Int.natCast_mul, BitVec.toNat_or, toNat_w S (by omega), toNat_w (x * P) hxm, Nat.mul_comm x P, Nat.or_comm, ← hor, Nat.add_comm]
theorem word_spec (b : List UInt8) (h8 : 8 ≤ b.length) (hl : b.length ≤ 35184372088832) : DCalls Tryd.prog G 76 [.vslice (dBy b) b.length] H (DRet (dI (wordL b)) H) := by
  refine dcalls_intro Tryd.func76 Tryd.call76 rfl (by kernel_rfl) ?_
  simp (disch := omega) only [go_sem, Nat.reduceEqDiff, Nat.reduceAdd, Nat.reduceMul, Nat.reduceSub, Nat.reduceLeDiff, ↓reduceIte, reduceCtorEq, Int.reduceAdd, Int.reduceSub, Int.reduceMul, Int.reduceNeg, Int.reduceToNat, List.reduceReplicate, String.reduceEq]
  obtain ⟨I, hI⟩ : ∃ I : Nat → (Nat → DVal) → DHeap → Prop, ∀ i env heap, I i env heap ↔ (heap = H ∧ env 0 = .vslice (dBy b) b.length ∧ env 2 = dI (IntKind.i64.wrap ((sumB (b.take i) : Nat) : Int)) ∧ env 4 = dI i ∧ i ≤ 8) := ⟨_, fun _ _ _ => Iff.rfl⟩
  refine DLoop.run I (fun i => 8 - i) 0 ((hI _ _ _).2 ?_) ?_
  · simp (disch := omega) only [go_sem, Nat.reduceEqDiff, Nat.reduceAdd, Nat.reduceMul, Nat.reduceSub, Nat.reduceLeDiff, ↓reduceIte, reduceCtorEq, Int.reduceAdd, Int.reduceSub, Int.reduceMul, Int.reduceNeg, Int.reduceToNat, List.reduceReplicate, String.reduceEq]
    (repeat' apply And.intro) <;> (try first | rfl | assumption | omega)
  · intro i env heap hi
    obtain ⟨rfl, e0, e2, e4, hi8⟩ := (hI _ _ _).1 hi
    by_cases hlt : i < 8
    · have hbl : i < b.length := by omega
      have hm : IntKind.i64.wrap (8 * (i : Int)) = ((8 * i : Nat) : Int) := by rw [IntKind.wrap_i64]; omega
      have hmin : min (8 * i) 64 = 8 * i := Nat.min_eq_left (by omega)
      have hget : (dBy b)[i]? = some (.int .u8 b[i].toNat) := by rw [dBy, List.getElem?_map, List.getElem?_eq_getElem hbl]; rfl
      have hbx := b[i].toNat_lt
      have hwx : IntKind.i64.wrap ((b[i].toNat : Nat) : Int) = ((b[i].toNat : Nat) : Int) := by rw [IntKind.wrap_i64]; omega
      have hsl := sumB_lt (b.take i)
      rw [List.length_take, Nat.min_eq_left (by omega)] at hsl
      have hor := or_word hlt hsl hbx
      rw [← sumB_take hbl] at hor
      simp (disch := omega) only [go_sem, Nat.reduceEqDiff, Nat.reduceAdd, Nat.reduceMul, Nat.reduceSub, Nat.reduceLeDiff, ↓reduceIte, reduceCtorEq, Int.reduceAdd, Int.reduceSub, Int.reduceMul, Int.reduceNeg, Int.reduceToNat, List.reduceReplicate, String.reduceEq, e0, e2, e4, hlt, hm, hmin, hget, dBy_length, hwx, hor]
      refine ⟨i + 1, _, GhostS.refl _, (hI _ _ _).2 ?_, by omega⟩
      simp (disch := omega) only [go_sem, Nat.reduceEqDiff, Nat.reduceAdd, Nat.reduceMul, Nat.reduceSub, Nat.reduceLeDiff, ↓reduceIte, reduceCtorEq, Int.reduceAdd, Int.reduceSub, Int.reduceMul, Int.reduceNeg, Int.reduceToNat, List.reduceReplicate, String.reduceEq, e0, e2, e4]
      (repeat' apply And.intro) <;> (try first | rfl | assumption | omega)
      exact congrArg (DVal.int .i64) hor
    · have : i = 8 := by omega
      subst this
      simp (disch := omega) only [go_sem, Nat.reduceEqDiff, Nat.reduceAdd, Nat.reduceMul, Nat.reduceSub, Nat.reduceLeDiff, ↓reduceIte, reduceCtorEq, Int.reduceAdd, Int.reduceSub, Int.reduceMul, Int.reduceNeg, Int.reduceToNat, List.reduceReplicate, String.reduceEq, e0, e2, e4]
      exact DFin.refl ⟨rfl, rfl⟩
theorem rwhole_spec (b : List UInt8) (h8 : 8 ≤ b.length) (hl : b.length ≤ 35184372088832) : DCalls Tryd.prog G 77 [.vslice (dBy b) b.length] H (DRet (dI (wordL b)) H) := by
  refine dcalls_intro Tryd.func77 Tryd.call77 rfl (by kernel_rfl) ?_
  simp (disch := omega) only [go_sem, Nat.reduceEqDiff, Nat.reduceAdd, Nat.reduceMul, Nat.reduceSub, Nat.reduceLeDiff, ↓reduceIte, reduceCtorEq, Int.reduceAdd, Int.reduceSub, Int.reduceMul, Int.reduceNeg, Int.reduceToNat, List.reduceReplicate, String.reduceEq]
  obtain ⟨I, hI⟩ : ∃ I : Nat → (Nat → DVal) → DHeap → Prop, ∀ k env heap, I k env heap ↔ (heap = H ∧ env 0 = .vslice (dBy b) b.length ∧ env 3 = .int .u64 ((sumB ((b.take 8).drop k) : Nat) : Int) ∧ env 4 = dI ((k : Int) - 1) ∧ k ≤ 8) := ⟨_, fun _ _ _ => Iff.rfl⟩
  have ht8 : (b.take 8).length = 8 := by rw [List.length_take]; omega
  refine DLoop.run I (fun k => k) 8 ((hI _ _ _).2 ?_) ?_
  · have : (b.take 8).drop 8 = [] := List.drop_of_length_le (by omega)
    simp (disch := omega) only [go_sem, Nat.reduceEqDiff, Nat.reduceAdd, Nat.reduceMul, Nat.reduceSub, Nat.reduceLeDiff, ↓reduceIte, reduceCtorEq, Int.reduceAdd, Int.reduceSub, Int.reduceMul, Int.reduceNeg, Int.reduceToNat, List.reduceReplicate, String.reduceEq, this, sumB]
    (repeat' apply And.intro) <;> (try first | rfl | assumption | omega)
  · intro k env heap hi
    obtain ⟨rfl, e0, e3, e4, hk⟩ := (hI _ _ _).1 hi
    have hsl := sumB_lt ((b.take 8).drop k)
    rw [List.length_drop, ht8] at hsl
    by_cases hk0 : k = 0
    · subst hk0
      have c : ¬ (0 : Int) ≤ ((0 : Nat) : Int) - 1 := by omega
      simp (disch := omega) only [go_sem, Nat.reduceEqDiff, Nat.reduceAdd, Nat.reduceMul, Nat.reduceSub, Nat.reduceLeDiff, ↓reduceIte, reduceCtorEq, Int.reduceAdd, Int.reduceSub, Int.reduceMul, Int.reduceNeg, Int.reduceToNat, List.reduceReplicate, String.reduceEq, e0, e3, e4, c]
      exact DFin.refl ⟨rfl, rfl⟩
    · obtain ⟨j, rfl⟩ : ∃ j, k = j + 1 := ⟨k - 1, by omega⟩
      have c : (0 : Int) ≤ ((j + 1 : Nat) : Int) - 1 := by omega
      have hjt : ((((j + 1 : Nat) : Int) - 1)).toNat = j := by omega
      have hjl : ((j + 1 : Nat) : Int) - 1 < (b.length : Int) := by omega
      have hw0 : IntKind.i64.wrap (((j + 1 : Nat) : Int) - 1 - 1) = (j : Int) - 1 := by rw [IntKind.wrap_i64]; omega
      have hbl : j < b.length := by omega
      have hget : (dBy b)[j]? = some (.int .u8 b[j].toNat) := by rw [dBy, List.getElem?_map, List.getElem?_eq_getElem hbl]; rfl
      have hbx := b[j].toNat_lt
      have hdj : (b.take 8).drop j = b[j] :: (b.take 8).drop (j + 1) := by
        rw [List.drop_eq_getElem_cons (by omega), List.getElem_take]
      have hsum : sumB ((b.take 8).drop j) = b[j].toNat + 256 * sumB ((b.take 8).drop (j + 1)) := by rw [hdj, sumB]
      have hP : 256 ^ (8 - (j + 1)) ≤ 256 ^ 7 := Nat.pow_le_pow_right (by omega) (by omega)
      have hP7 : (256 : Nat) ^ 7 = 72057594037927936 := by decide
      generalize hS : sumB ((b.take 8).drop (j + 1)) = S at *
      have hS7 : S < 72057594037927936 := by omega
      have hw1 : IntKind.u64.wrap (256 * (S : Int)) = 256 * (S : Int) := by rw [IntKind.wrap_u64]; omega
      have hw2 : IntKind.u64.wrap ((b[j].toNat : Nat) : Int) = ((b[j].toNat : Nat) : Int) := by rw [IntKind.wrap_u64]; omega
      have hw3 : IntKind.u64.wrap (256 * (S : Int) + ((b[j].toNat : Nat) : Int)) = ((b[j].toNat + 256 * S : Nat) : Int) := by rw [IntKind.wrap_u64]; omega
      simp (disch := omega) only [go_sem, Nat.reduceEqDiff, Nat.reduceAdd, Nat.reduceMul, Nat.reduceSub, Nat.reduceLeDiff, ↓reduceIte, reduceCtorEq, Int.reduceAdd, Int.reduceSub, Int.reduceMul, Int.reduceNeg, Int.reduceToNat, List.reduceReplicate, String.reduceEq, e0, e3, e4, c, hjt, hjl, hget, dBy_length, hw0, hw1, hw2, hw3]
      refine ⟨j, _, GhostS.refl _, (hI _ _ _).2 ?_, by omega⟩
      simp (disch := omega) only [go_sem, Nat.reduceEqDiff, Nat.reduceAdd, Nat.reduceMul, Nat.reduceSub, Nat.reduceLeDiff, ↓reduceIte, reduceCtorEq, Int.reduceAdd, Int.reduceSub, Int.reduceMul, Int.reduceNeg, Int.reduceToNat, List.reduceReplicate, String.reduceEq, e0, e3, e4, hsum]
      (repeat' apply And.intro) <;> (try first | rfl | assumption | omega)
end
end Go.Dl

-- Chapter 22: Get.
namespace Go.Dl
open Go Go.Proofs
set_option maxRecDepth 10000

theorem loadB_take : ∀ (fs : List (Int × Int × Int)) (r : List UInt8) (x y : Insn) (k : Nat), loadB (fs.take k) r x = some y → loadB fs r x = loadB (fs.drop k) (r.drop (8 * k)) y
  | fs, r, x, y, 0, h => by simp [loadB] at h; simp [h]
  | [], r, x, y, k + 1, h => by simp [loadB] at h; simp [h, loadB]
  | f :: fs, r, x, y, k + 1, h => by
    rw [List.take_succ_cons, loadB] at h
    split at h
    · cases h
    · rename_i hl
      rw [loadB, if_neg hl, List.drop_succ_cons, loadB_take fs _ _ _ k h, List.drop_drop, show 8 + 8 * k = 8 * (k + 1) by omega]
theorem loadB_snoc {fs : List (Int × Int × Int)} {r : List UInt8} {x y : Insn} {k : Nat} {p : Int × Int × Int} (h : loadB (fs.take k) r x = some y) (hp : fs[k]? = some p) (hl : ¬ (r.drop (8 * k)).length < 8) :
    loadB (fs.take (k + 1)) r x = some (setI y p.1 (wordL (r.drop (8 * k)))) := by
  obtain ⟨hk, hpe⟩ := List.getElem?_eq_some_iff.1 hp
  have h2 : loadB ((fs.take (k + 1)).take k) r x = some y := by rw [List.take_take, Nat.min_eq_left (by omega)]; exact h
  rw [loadB_take _ _ _ _ _ h2, List.take_succ_eq_append_getElem hk, List.drop_left' (by simp; omega), hpe, loadB, if_neg hl]
  rfl
theorem loadB_op : ∀ (fs : List (Int × Int × Int)) (r : List UInt8) (x y : Insn), loadB fs r x = some y → y.op = x.op
  | [], r, x, y, h => by simp only [loadB] at h; cases h; rfl
  | f :: fs, r, x, y, h => by
    rw [loadB] at h
    split at h
    · cases h
    · rw [loadB_op fs _ _ _ h, set_op]
theorem loadB_short : ∀ (fs : List (Int × Int × Int)) (r : List UInt8) (x : Insn), r.length < 8 * fs.length → loadB fs r x = none
  | [], r, x, h => by simp at h
  | f :: fs, r, x, h => by
    rw [loadB]
    split
    · rfl
    · refine loadB_short fs _ _ ?_
      simp at h ⊢; omega
/-- What Get returns. -/
def getBD (b : List UInt8) : Insn × Int × Int := match getB b with | some (x, n) => (x, (n : Int), 0) | none => (op0 0, 0, 220)
theorem getBD_none {b : List UInt8} (h : getB b = none) : getBD b = (op0 0, 0, 220) := by rw [getBD, h]
theorem getB_cons (c : UInt8) (r : List UInt8) : getB (c :: r) = (match loadB (fieldsI c.toNat) r (op0 c.toNat) with | some x => if mayI x = true then some (x, 1 + 8 * (fieldsI c.toNat).length) else none | none => none) := rfl
theorem getB_none1 {c : UInt8} {r : List UInt8} (h : loadB (fieldsI c.toNat) r (op0 c.toNat) = none) : getB (c :: r) = none := by rw [getB_cons, h]
theorem getB_none2 {c : UInt8} {r : List UInt8} {x : Insn} (h : loadB (fieldsI c.toNat) r (op0 c.toNat) = some x) (hm : mayI x = false) : getB (c :: r) = none := by rw [getB_cons, h]; simp [hm]
theorem getB_some {c : UInt8} {r : List UInt8} {x : Insn} (h : loadB (fieldsI c.toNat) r (op0 c.toNat) = some x) (hm : mayI x = true) : getBD (c :: r) = (x, ((1 + 8 * (fieldsI c.toNat).length : Nat) : Int), 0) := by
  rw [getBD, getB_cons, h]; simp [hm]
theorem sl_dBy (b : List UInt8) (n : Nat) : DVal.vslice ((dBy b).drop n) (b.length - n) = .vslice (dBy (b.drop n)) (b.drop n).length := by
  rw [List.length_drop, dBy, dBy, List.map_drop]

set_option maxHeartbeats 4000000 in
theorem rget_spec (G : Nat → DVal) (H : DHeap) (b : List UInt8) (hb : b.length ≤ 35184372088832) : DCalls Tryd.prog G 47 [.vslice (dBy b) b.length] H (DRet (.tuple [.agg (dInsn (getBD b).1), dI (getBD b).2.1, dI (getBD b).2.2]) H) := by
  have hz : [DVal.int IntKind.u8 0, DVal.int IntKind.i64 0, DVal.int IntKind.i64 0, DVal.int IntKind.i64 0, DVal.int IntKind.i64 0, DVal.int IntKind.i64 0, DVal.int IntKind.i64 0] = dInsn (op0 0) := rfl
  have hone : ∀ y, (dInsn y).all (fun d => d.one) = true := fun _ => rfl
  have hdr : ∀ y, (dInsn y).drop 7 = [] := fun _ => rfl
  have hdt : ∀ y, (dInsn y).take 7 = dInsn y := fun _ => rfl
  refine dcalls_intro Tryd.func47 Tryd.call47 rfl (by kernel_rfl) ?_
  simp (disch := omega) only [go_sem, Nat.reduceEqDiff, Nat.reduceAdd, Nat.reduceMul, Nat.reduceSub, Nat.reduceLeDiff, ↓reduceIte, reduceCtorEq, Int.reduceAdd, Int.reduceSub, Int.reduceMul, Int.reduceNeg, Int.reduceToNat, List.reduceReplicate, String.reduceEq]
  rw [hz]
  intro r2 hr2; dsimp only at hr2
  by_cases hb0 : b = []
  · subst hb0
    simp (disch := omega) only [go_sem, Nat.reduceEqDiff, Nat.reduceAdd, Nat.reduceMul, Nat.reduceSub, Nat.reduceLeDiff, ↓reduceIte, reduceCtorEq, Int.reduceAdd, Int.reduceSub, Int.reduceMul, Int.reduceNeg, Int.reduceToNat, List.reduceReplicate, String.reduceEq, List.length_nil, hz, hone, hdr, hdt, dInsn_len, List.append_nil, DVal.cells]
    exact DFin.dropA r2 hr2 (DFin.refl ⟨by rw [getBD_none rfl], rfl⟩)
  · obtain ⟨c, r, hcr⟩ := List.exists_cons_of_ne_nil hb0
    have hsr : b.length = r.length + 1 := by rw [hcr]; rfl
    have hbl : (b.length : Int) ≠ 0 := by omega
    have hpos : (0 : Int) < (b.length : Int) := by omega
    have hc0 : (dBy b)[0]? = some (.int .u8 c.toNat) := by rw [hcr]; rfl
    have hcl := c.toNat_lt
    simp (disch := omega) only [go_sem, Nat.reduceEqDiff, Nat.reduceAdd, Nat.reduceMul, Nat.reduceSub, Nat.reduceLeDiff, ↓reduceIte, reduceCtorEq, Int.reduceAdd, Int.reduceSub, Int.reduceMul, Int.reduceNeg, Int.reduceToNat, List.reduceReplicate, String.reduceEq, hbl, hpos, hc0, dBy_length]
    refine (rfind_spec G _ (c.toNat : Int) (by omega) (by omega)).mono ?_
    rintro _ H1 ⟨rfl, rfl⟩
    rw [dRRow_at]
    simp (disch := omega) only [go_sem, Nat.reduceEqDiff, Nat.reduceAdd, Nat.reduceMul, Nat.reduceSub, Nat.reduceLeDiff, ↓reduceIte, reduceCtorEq, Int.reduceAdd, Int.reduceSub, Int.reduceMul, Int.reduceNeg, Int.reduceToNat, List.reduceReplicate, String.reduceEq, DVal.cells]
    intro r5 hr5; dsimp only at hr5
    obtain ⟨m2, m1, hr5'⟩ := upd_eq_none.1 hr5
    obtain ⟨hfl, hnd, hfok⟩ := fieldsI_ok (c.toNat : Int)
    obtain ⟨fs, hfs⟩ : ∃ fs, fs = fieldsI (c.toNat : Int) := ⟨_, rfl⟩
    rw [← hfs] at hfl hnd hfok ⊢
    have hw1 : IntKind.i64.wrap (8 * (fs.length : Int)) = ((8 * fs.length : Nat) : Int) := by rw [IntKind.wrap_i64]; omega
    have hw2 : IntKind.i64.wrap (1 + ((8 * fs.length : Nat) : Int)) = ((1 + 8 * fs.length : Nat) : Int) := by rw [IntKind.wrap_i64]; omega
    cases ho : isO (c.toNat : Int) with
    | false =>
      have hf0 : fs = [] := by
        rw [hfs, fieldsI, if_neg]
        simp [isO] at ho
        omega
      have hg : getB b = none := by
        rw [hcr]
        refine getB_none2 (x := op0 c.toNat) (by rw [← hfs, hf0]; rfl) ?_
        cases hm : mayI (op0 (c.toNat : Int)) with
        | false => rfl
        | true => have := mayI_at hm; simp [isO, op0] at ho this; omega
      simp (disch := omega) only [go_sem, Nat.reduceEqDiff, Nat.reduceAdd, Nat.reduceMul, Nat.reduceSub, Nat.reduceLeDiff, ↓reduceIte, reduceCtorEq, Int.reduceAdd, Int.reduceSub, Int.reduceMul, Int.reduceNeg, Int.reduceToNat, List.reduceReplicate, String.reduceEq, m1, m2, hw1, hw2, hz, hone, hdr, hdt, dInsn_len, List.append_nil]
      exact DFin.sub (show Sub H _ from (by repeat (first | exact Sub.refl _ | assumption | refine Sub.up ?_ (by assumption) _))) (DFin.refl ⟨by rw [getBD_none hg], rfl⟩)
    | true =>
      by_cases hs : b.length < 1 + 8 * fs.length
      · have hs' : (b.length : Int) < ((1 + 8 * fs.length : Nat) : Int) := by omega
        have hg : getB b = none := by
          rw [hcr]; exact getB_none1 (by rw [← hfs]; exact loadB_short _ _ _ (by omega))
        simp (disch := omega) only [go_sem, Nat.reduceEqDiff, Nat.reduceAdd, Nat.reduceMul, Nat.reduceSub, Nat.reduceLeDiff, ↓reduceIte, reduceCtorEq, Int.reduceAdd, Int.reduceSub, Int.reduceMul, Int.reduceNeg, Int.reduceToNat, List.reduceReplicate, String.reduceEq, m1, m2, hw1, hw2, hz, hone, hdr, hdt, dInsn_len, List.append_nil, hs']
        exact DFin.sub (show Sub H _ from (by repeat (first | exact Sub.refl _ | assumption | refine Sub.up ?_ (by assumption) _))) (DFin.refl ⟨by rw [getBD_none hg], rfl⟩)
      · have hs' : ¬ (b.length : Int) < ((1 + 8 * fs.length : Nat) : Int) := by omega
        have hop := (rrAt_op ho).1
        have hz2 : [DVal.int IntKind.u8 (c.toNat : Int), DVal.int IntKind.i64 0, DVal.int IntKind.i64 0, DVal.int IntKind.i64 0, DVal.int IntKind.i64 0, DVal.int IntKind.i64 0, DVal.int IntKind.i64 0] = dInsn (op0 c.toNat) := rfl
        rw [hop]
        simp (disch := omega) only [go_sem, Nat.reduceEqDiff, Nat.reduceAdd, Nat.reduceMul, Nat.reduceSub, Nat.reduceLeDiff, ↓reduceIte, reduceCtorEq, Int.reduceAdd, Int.reduceSub, Int.reduceMul, Int.reduceNeg, Int.reduceToNat, List.reduceReplicate, String.reduceEq, m1, m2, hw1, hw2, hs']
        rw [hz]
        intro r8 hr8; dsimp only at hr8
        obtain ⟨n2, n1, hr8a⟩ := upd_eq_none.1 hr8
        obtain ⟨n4, n3, hr8'⟩ := upd_eq_none.1 hr8a
        simp (disch := omega) only [go_sem, Nat.reduceEqDiff, Nat.reduceAdd, Nat.reduceMul, Nat.reduceSub, Nat.reduceLeDiff, ↓reduceIte, reduceCtorEq, Int.reduceAdd, Int.reduceSub, Int.reduceMul, Int.reduceNeg, Int.reduceToNat, List.reduceReplicate, String.reduceEq, m1, m2, n1, n2, n3, n4, hz2, hone, hdr, dInsn_len, List.append_nil]
        obtain ⟨I, hI⟩ : ∃ I : Nat × Insn → (Nat → DVal) → DHeap → Prop, ∀ ix env heap, I ix env heap ↔ (env 0 = .vslice (dBy b) b.length ∧ env 2 = .optr r2 0 ∧ env 5 = .optr r5 0 ∧ env 7 = dI ((1 + 8 * fs.length : Nat) : Int) ∧ env 8 = .optr r8 0 ∧ env 9 = dI ix.1 ∧ ix.1 ≤ fs.length ∧ loadB (fs.take ix.1) r (op0 c.toNat) = some ix.2 ∧ heap = upd (upd (upd H r2 (some (.cells (dInsn (op0 0)) 53))) r5 (some (.cells [.int .u8 (c.toNat : Int), .str (rrAt (c.toNat : Int)).2.1, .vslice (fs.flatMap dFld) fs.length] 65))) r8 (some (.cells (dInsn ix.2) 53))) := ⟨_, fun _ _ _ => Iff.rfl⟩
        refine DLoop.run I (fun ix => fs.length - ix.1) (0, op0 c.toNat) ((hI _ _ _).2 ?_) ?_
        · simp (disch := omega) only [go_sem, Nat.reduceEqDiff, Nat.reduceAdd, Nat.reduceMul, Nat.reduceSub, Nat.reduceLeDiff, ↓reduceIte, reduceCtorEq, Int.reduceAdd, Int.reduceSub, Int.reduceMul, Int.reduceNeg, Int.reduceToNat, List.reduceReplicate, String.reduceEq]
          (repeat' apply And.intro) <;> (try first | rfl | assumption | omega)
        · rintro ⟨k, y⟩ env heap hi
          obtain ⟨e0, e2, e5, e7, e8, e9, hk, hld, rfl⟩ := (hI _ _ _).1 hi
          dsimp only at e9 hk hld
          by_cases hlt : k < fs.length
          · have hfk := List.getElem?_eq_getElem hlt
            have hg0 : (fs.flatMap dFld)[k * 3]? = (dFld fs[k])[0]? := flat_get dFld_length fs k hlt 0 (by omega)
            obtain ⟨p, hp⟩ : ∃ p, fs[k] = p := ⟨_, rfl⟩
            rw [hp] at hfk hg0
            have hpF := (hfok p (List.mem_of_getElem? hfk)).1
            have hl8 : 8 ≤ (r.drop (8 * k)).length := by rw [List.length_drop]; omega
            have hw3 : IntKind.i64.wrap (8 * (k : Int)) = ((8 * k : Nat) : Int) := by rw [IntKind.wrap_i64]; omega
            have hw4 : IntKind.i64.wrap (1 + ((8 * k : Nat) : Int)) = ((8 * k + 1 : Nat) : Int) := by rw [IntKind.wrap_i64]; omega
            have hsn := loadB_snoc hld hfk (by omega)
            have hle : 8 * k + 1 ≤ b.length := by omega
            have hdl : ((dBy b).drop (8 * k + 1)).take (b.length - (8 * k + 1)) = (dBy b).drop (8 * k + 1) := List.take_of_length_le (by rw [List.length_drop, dBy_length]; omega)
            have hsl := sl_dBy b (8 * k + 1)
            rw [show b.drop (8 * k + 1) = r.drop (8 * k) by rw [hcr]; rfl] at hsl
            simp (disch := omega) only [go_sem, Nat.reduceEqDiff, Nat.reduceAdd, Nat.reduceMul, Nat.reduceSub, Nat.reduceLeDiff, ↓reduceIte, reduceCtorEq, Int.reduceAdd, Int.reduceSub, Int.reduceMul, Int.reduceNeg, Int.reduceToNat, List.reduceReplicate, String.reduceEq, e0, e2, e5, e7, e8, e9, hlt, m1, m2, n1, n2, n3, n4]
            refine dwp_draws (by kernel_rfl) (.take 0 (.take 1 (.take 2 (.take 3 (.take 4 (.take 5 (.take 6 (.take 7 (.take 8 (.take 9 (.take 10 (.take 11 (.go 12 [6, 2, 0] (.go 13 [11, 2] (.go 14 [] .done))))))))))))))) (by kernel_rfl) ?_
            simp (disch := omega) only [go_sem, Nat.reduceEqDiff, Nat.reduceAdd, Nat.reduceMul, Nat.reduceSub, Nat.reduceLeDiff, ↓reduceIte, reduceCtorEq, Int.reduceAdd, Int.reduceSub, Int.reduceMul, Int.reduceNeg, Int.reduceToNat, List.reduceReplicate, String.reduceEq, e0, e2, e5, e7, e8, e9, hlt, m1, m2, n1, n2, n3, n4, hdt, dInsn_len, flat_len dFld_length, hg0, dFld, hw3, hw4, Int.toNat_natCast, hdl, hsl]
            refine (rwhole_spec (G := G) (r.drop (8 * k)) hl8 (by rw [List.length_drop]; omega)).mono ?_
            rintro _ H1 ⟨rfl, rfl⟩
            simp (disch := omega) only [go_sem, Nat.reduceEqDiff, Nat.reduceAdd, Nat.reduceMul, Nat.reduceSub, Nat.reduceLeDiff, ↓reduceIte, reduceCtorEq, Int.reduceAdd, Int.reduceSub, Int.reduceMul, Int.reduceNeg, Int.reduceToNat, List.reduceReplicate, String.reduceEq, e0, e2, e5, e7, e8, e9]
            refine (with_spec G _ y p.1 (wordL (r.drop (8 * k))) hpF).mono ?_
            rintro _ H1 ⟨rfl, rfl⟩
            simp (disch := omega) only [go_sem, Nat.reduceEqDiff, Nat.reduceAdd, Nat.reduceMul, Nat.reduceSub, Nat.reduceLeDiff, ↓reduceIte, reduceCtorEq, Int.reduceAdd, Int.reduceSub, Int.reduceMul, Int.reduceNeg, Int.reduceToNat, List.reduceReplicate, String.reduceEq, e0, e2, e5, e7, e8, e9, m1, m2, n1, n2, n3, n4, hone, hdr, dInsn_len, List.append_nil, DVal.cells]
            refine ⟨(k + 1, setI y p.1 (wordL (r.drop (8 * k)))), _, GhostS.refl _, (hI _ _ _).2 ?_, by dsimp only; omega⟩
            simp (disch := omega) only [go_sem, Nat.reduceEqDiff, Nat.reduceAdd, Nat.reduceMul, Nat.reduceSub, Nat.reduceLeDiff, ↓reduceIte, reduceCtorEq, Int.reduceAdd, Int.reduceSub, Int.reduceMul, Int.reduceNeg, Int.reduceToNat, List.reduceReplicate, String.reduceEq, e0, e2, e5, e7, e8, e9]
            (repeat' apply And.intro) <;> (try first | rfl | assumption | omega)
          · have hkl : k = fs.length := by omega
            subst hkl
            rw [List.take_length] at hld
            have hyo := loadB_op _ _ _ _ hld
            simp (disch := omega) only [go_sem, Nat.reduceEqDiff, Nat.reduceAdd, Nat.reduceMul, Nat.reduceSub, Nat.reduceLeDiff, ↓reduceIte, reduceCtorEq, Int.reduceAdd, Int.reduceSub, Int.reduceMul, Int.reduceNeg, Int.reduceToNat, List.reduceReplicate, String.reduceEq, e0, e2, e5, e7, e8, e9, hlt, m1, m2, n1, n2, n3, n4, hdt, dInsn_len]
            refine (rmayI_spec G _ y (by rw [hyo]; show (0 : Int) ≤ (c.toNat : Int); omega) (by rw [hyo]; show (c.toNat : Int) < 256; omega)).mono ?_
            rintro _ H1 ⟨rfl, rfl⟩
            cases hm : mayI y with
            | false =>
              have hg : getB b = none := by rw [hcr]; exact getB_none2 (by rw [← hfs]; exact hld) hm
              simp (disch := omega) only [go_sem, Nat.reduceEqDiff, Nat.reduceAdd, Nat.reduceMul, Nat.reduceSub, Nat.reduceLeDiff, ↓reduceIte, reduceCtorEq, Int.reduceAdd, Int.reduceSub, Int.reduceMul, Int.reduceNeg, Int.reduceToNat, List.reduceReplicate, String.reduceEq, e0, e2, e5, e7, e8, e9, m1, m2, n1, n2, n3, n4, hz, hone, hdr, hdt, dInsn_len, List.append_nil]
              exact DFin.sub (show Sub H _ from (by repeat (first | exact Sub.refl _ | assumption | refine Sub.up ?_ (by assumption) _))) (DFin.refl ⟨by rw [getBD_none hg], rfl⟩)
            | true =>
              have hg : getBD b = (y, ((1 + 8 * fs.length : Nat) : Int), 0) := by rw [hcr, hfs]; exact getB_some (by rw [← hfs]; exact hld) hm
              simp (disch := omega) only [go_sem, Nat.reduceEqDiff, Nat.reduceAdd, Nat.reduceMul, Nat.reduceSub, Nat.reduceLeDiff, ↓reduceIte, reduceCtorEq, Int.reduceAdd, Int.reduceSub, Int.reduceMul, Int.reduceNeg, Int.reduceToNat, List.reduceReplicate, String.reduceEq, e0, e2, e5, e7, e8, e9, m1, m2, n1, n2, n3, n4, hz, hone, hdr, hdt, dInsn_len, List.append_nil, DVal.cells]
              exact DFin.sub (show Sub H _ from (by repeat (first | exact Sub.refl _ | assumption | refine Sub.up ?_ (by assumption) _))) (DFin.refl ⟨by rw [hg], rfl⟩)
end Go.Dl

-- Chapter 22: Get of the package.
namespace Go.Dl
open Go Go.Proofs
set_option maxRecDepth 10000

theorem overX4 (H : DHeap) {a b c d : Nat} (oa ob oc od ob' oc' : DObj) (h1 : ¬ b = c) (h2 : ¬ b = d) (h3 : ¬ c = d) (h4 : ¬ a = b) (h5 : ¬ a = c) (h6 : ¬ a = d) : upd (upd (upd (upd (upd (upd H a (some oa)) b (some ob)) c (some oc)) d (some od)) b (some ob')) c (some oc') = over H (upd (upd (upd (upd h0 a (some oa)) b (some ob')) c (some oc')) d (some od)) := by
  funext i
  simp only [upd, over, h0]
  by_cases e1 : i = c
  · subst e1; simp [h3]
  · by_cases e2 : i = b
    · subst e2; simp [e1, h2]
    · by_cases e3 : i = d
      · subst e3; simp [e1, e2]
      · by_cases e4 : i = a
        · subst e4; simp [e1, e2, e3]
        · simp [e1, e2, e3, e4]

set_option maxHeartbeats 8000000 in
theorem get_spec {G : Nat → DVal} (hG : GI G) (H : DHeap) (b : List UInt8) (hb : b.length ≤ 35184372088832) : DCalls Tryd.prog G 46 [.vslice (dBy b) b.length] H (DRet (.tuple [.agg (dInsn (getBD b).1), dI (getBD b).2.1, dI (getBD b).2.2]) H) := by
  have hz : [DVal.int IntKind.u8 0, DVal.int IntKind.i64 0, DVal.int IntKind.i64 0, DVal.int IntKind.i64 0, DVal.int IntKind.i64 0, DVal.int IntKind.i64 0, DVal.int IntKind.i64 0] = dInsn (op0 0) := rfl
  have hone : ∀ y, (dInsn y).all (fun d => d.one) = true := fun _ => rfl
  have hdr : ∀ y, (dInsn y).drop 7 = [] := fun _ => rfl
  have hdt : ∀ y, (dInsn y).take 7 = dInsn y := fun _ => rfl
  refine dcalls_intro Tryd.func46 Tryd.call46 rfl (by kernel_rfl) ?_
  simp (disch := omega) only [go_sem, Nat.reduceEqDiff, Nat.reduceAdd, Nat.reduceMul, Nat.reduceSub, Nat.reduceLeDiff, ↓reduceIte, reduceCtorEq, Int.reduceAdd, Int.reduceSub, Int.reduceMul, Int.reduceNeg, Int.reduceToNat, List.reduceReplicate, String.reduceEq, DVal.cells]
  intro r1 hr1; dsimp only at hr1
  simp (disch := omega) only [go_sem, Nat.reduceEqDiff, Nat.reduceAdd, Nat.reduceMul, Nat.reduceSub, Nat.reduceLeDiff, ↓reduceIte, reduceCtorEq, Int.reduceAdd, Int.reduceSub, Int.reduceMul, Int.reduceNeg, Int.reduceToNat, List.reduceReplicate, String.reduceEq]
  rw [hz]
  intro r2 hr2; dsimp only at hr2
  obtain ⟨a2, a1, hr2'⟩ := upd_eq_none.1 hr2
  simp (disch := omega) only [go_sem, Nat.reduceEqDiff, Nat.reduceAdd, Nat.reduceMul, Nat.reduceSub, Nat.reduceLeDiff, ↓reduceIte, reduceCtorEq, Int.reduceAdd, Int.reduceSub, Int.reduceMul, Int.reduceNeg, Int.reduceToNat, List.reduceReplicate, String.reduceEq]
  intro r3 hr3; dsimp only at hr3
  obtain ⟨a4, a3, hr3a⟩ := upd_eq_none.1 hr3
  obtain ⟨a6, a5, hr3'⟩ := upd_eq_none.1 hr3a
  simp (disch := omega) only [go_sem, Nat.reduceEqDiff, Nat.reduceAdd, Nat.reduceMul, Nat.reduceSub, Nat.reduceLeDiff, ↓reduceIte, reduceCtorEq, Int.reduceAdd, Int.reduceSub, Int.reduceMul, Int.reduceNeg, Int.reduceToNat, List.reduceReplicate, String.reduceEq]
  intro r4 hr4; dsimp only at hr4
  obtain ⟨a8, a7, hr4a⟩ := upd_eq_none.1 hr4
  obtain ⟨a10, a9, hr4b⟩ := upd_eq_none.1 hr4a
  obtain ⟨a12, a11, hr4'⟩ := upd_eq_none.1 hr4b
  by_cases hb0 : b = []
  · subst hb0
    simp (disch := omega) only [go_sem, Nat.reduceEqDiff, Nat.reduceAdd, Nat.reduceMul, Nat.reduceSub, Nat.reduceLeDiff, ↓reduceIte, reduceCtorEq, Int.reduceAdd, Int.reduceSub, Int.reduceMul, Int.reduceNeg, Int.reduceToNat, List.reduceReplicate, String.reduceEq, a1, a2, a3, a4, a5, a6, a7, a8, a9, a10, a11, a12, List.length_nil, hz, hone, hdr, hdt, dInsn_len, List.append_nil, DVal.cells]
    exact DFin.sub (show Sub H _ from (by repeat (first | exact Sub.refl _ | assumption | refine Sub.up ?_ (by assumption) _))) (DFin.refl ⟨by rw [getBD_none rfl], rfl⟩)
  · obtain ⟨c, r, hcr⟩ := List.exists_cons_of_ne_nil hb0
    have hsr : b.length = r.length + 1 := by rw [hcr]; rfl
    have hbl : (b.length : Int) ≠ 0 := by omega
    have hpos : (0 : Int) < (b.length : Int) := by omega
    have hc0 : (dBy b)[0]? = some (.int .u8 c.toNat) := by rw [hcr]; rfl
    have hcl := c.toNat_lt
    have p0 : (0 : Int) ≤ (c.toNat : Int) := by omega
    have p1 : (c.toNat : Int) < 256 := by omega
    obtain ⟨hfl, hnd, hfok⟩ := fieldsI_ok (c.toNat : Int)
    obtain ⟨fs, hfs⟩ : ∃ fs, fs = fieldsI (c.toNat : Int) := ⟨_, rfl⟩
    rw [← hfs] at hfl hnd hfok
    have hz2 : [DVal.int IntKind.u8 (c.toNat : Int), DVal.int IntKind.i64 0, DVal.int IntKind.i64 0, DVal.int IntKind.i64 0, DVal.int IntKind.i64 0, DVal.int IntKind.i64 0, DVal.int IntKind.i64 0] = dInsn (op0 c.toNat) := rfl
    have hset : DVal.int .u8 (c.toNat : Int) :: List.drop 1 (dInsn (op0 0)) = dInsn (op0 c.toNat) := rfl
    simp (disch := omega) only [go_sem, Nat.reduceEqDiff, Nat.reduceAdd, Nat.reduceMul, Nat.reduceSub, Nat.reduceLeDiff, ↓reduceIte, reduceCtorEq, Int.reduceAdd, Int.reduceSub, Int.reduceMul, Int.reduceNeg, Int.reduceToNat, List.reduceReplicate, String.reduceEq, a1, a2, a3, a4, a5, a6, a7, a8, a9, a10, a11, a12, hbl, hpos, hc0, dBy_length, hset, hz2, dInsn_len]
    refine (fieldsf_spec (G := G) r2).mono ?_
    rintro _ H1 ⟨rfl, rfl⟩
    simp (disch := omega) only [go_sem, Nat.reduceEqDiff, Nat.reduceAdd, Nat.reduceMul, Nat.reduceSub, Nat.reduceLeDiff, ↓reduceIte, reduceCtorEq, Int.reduceAdd, Int.reduceSub, Int.reduceMul, Int.reduceNeg, Int.reduceToNat, List.reduceReplicate, String.reduceEq]
    refine dwp_rangeX 87 [.vptr [.optr r2 0] 0] (fs.map fun p => [dFieldV r2 p]) _ (upd (upd (upd (upd h0 r1 (some (.cells [.vslice (dBy b) b.length] 36))) r2 (some (.cells (dInsn (op0 c.toNat)) 53))) r3 (some (.cells [dI 1] 3))) r4 (some (.cells [dI 0] 25)))
      (by rw [hfs]; exact fields_iter (x := op0 c.toNat) hG p0 p1 (by simp [upd, a3, a7, a9])) rfl (by kernel_rfl) (by intro z hz; obtain ⟨p, _, rfl⟩ := List.mem_map.1 hz; rfl) (overX4 _ _ _ _ _ _ _ a3 a9 a7 a1 a5 a11) (((((Disj.h0 _).hi hr1 _).hi hr2' _).hi hr3' _).hi hr4' _)
      (fun k X => ∃ y, X r1 = some (.cells [.vslice (dBy b) b.length] 36) ∧ X r2 = some (.cells (dInsn y) 53) ∧ X r3 = some (.cells [dI ((8 * k + 1 : Nat) : Int)] 3) ∧ X r4 = some (.cells [dI 0] 25) ∧ loadB (fs.take k) r (op0 c.toNat) = some y)
      (fun j X => j = .ret ∧ X r2 = some (.cells (dInsn (op0 0)) 53) ∧ X r3 = some (.cells [dI 0] 3) ∧ X r4 = some (.cells [dI 220] 25) ∧ getB b = none) ⟨op0 c.toNat, by simp [upd, a1, a5, a11], by simp [upd, a3, a4, a7, a8, a9, a10], by simp [upd, a7, a8], by simp [upd], rfl⟩ ?_ ?_ ?_
    · rintro k z Hi X hd hzz ⟨y, hX1, hX2, hX3, hX4, hld⟩
      rw [List.getElem?_map, Option.map_eq_some_iff] at hzz
      obtain ⟨p, hfk, rfl⟩ := hzz
      obtain ⟨hkl, _⟩ := List.getElem?_eq_some_iff.1 hfk
      have hpF := (hfok p (List.mem_of_getElem? hfk)).1
      have hw3 : IntKind.i64.wrap (((8 * k + 1 : Nat) : Int) + 8) = ((8 * (k + 1) + 1 : Nat) : Int) := by rw [IntKind.wrap_i64]; omega
      have h1x : over Hi X r1 = some (.cells [.vslice (dBy b) b.length] 36) := over_x hX1
      have h2x : over Hi X r2 = some (.cells (dInsn y) 53) := over_x hX2
      have h3x : over Hi X r3 = some (.cells [dI ((8 * k + 1 : Nat) : Int)] 3) := over_x hX3
      have h4x : over Hi X r4 = some (.cells [dI 0] 25) := over_x hX4
      simp (disch := omega) only [go_sem, Nat.reduceEqDiff, Nat.reduceAdd, Nat.reduceMul, Nat.reduceSub, Nat.reduceLeDiff, ↓reduceIte, reduceCtorEq, Int.reduceAdd, Int.reduceSub, Int.reduceMul, Int.reduceNeg, Int.reduceToNat, List.reduceReplicate, String.reduceEq, dFieldV, DVal.cells]
      intro r6 hr6; dsimp only at hr6
      obtain ⟨hH6, hX6⟩ := over_eq_none.1 hr6
      have n1 : ¬ r1 = r6 := fun e => by subst e; rw [hX1] at hX6; cases hX6
      have n2 : ¬ r2 = r6 := fun e => by subst e; rw [hX2] at hX6; cases hX6
      have n3 : ¬ r3 = r6 := fun e => by subst e; rw [hX3] at hX6; cases hX6
      have n4 : ¬ r4 = r6 := fun e => by subst e; rw [hX4] at hX6; cases hX6
      by_cases hs : b.length < 8 * (k + 1) + 1
      · have hs' : (b.length : Int) < ((8 * (k + 1) + 1 : Nat) : Int) := by omega
        have hg : getB b = none := by
          rw [hcr]; exact getB_none1 (by rw [← hfs]; exact loadB_short _ _ _ (by omega))
        simp (disch := omega) only [go_sem, Nat.reduceEqDiff, Nat.reduceAdd, Nat.reduceMul, Nat.reduceSub, Nat.reduceLeDiff, ↓reduceIte, reduceCtorEq, Int.reduceAdd, Int.reduceSub, Int.reduceMul, Int.reduceNeg, Int.reduceToNat, List.reduceReplicate, String.reduceEq, n1, n2, n3, n4, h1x, h2x, h3x, h4x, hw3, hs', hz, hone, hdr, hdt, dInsn_len, List.append_nil, a3, a4, a7, a8, a9, a10, List.length_cons, List.length_nil]
        refine ⟨_, rfl, (((hd.hi hH6 _).st (r := r2) (by simp only [upd, if_neg n2]; exact hX2) _).st (r := r3) (by simp only [upd, if_neg a4, if_neg n3]; exact hX3) _).st (r := r4) (by simp only [upd, if_neg a8, if_neg a10, if_neg n4]; exact hX4) _, ?_, ?_, ?_, hg⟩
        · simp [upd, a3, a9]
        · simp [upd, a7]
        · simp [upd]
      · have hs' : ¬ (b.length : Int) < ((8 * (k + 1) + 1 : Nat) : Int) := by omega
        have hl8 : 8 ≤ (r.drop (8 * k)).length := by rw [List.length_drop]; omega
        have hsn := loadB_snoc hld hfk (by omega)
        have hle : 8 * k + 1 ≤ b.length := by omega
        have hdl : ((dBy b).drop (8 * k + 1)).take (b.length - (8 * k + 1)) = (dBy b).drop (8 * k + 1) := List.take_of_length_le (by rw [List.length_drop, dBy_length]; omega)
        have hsl := sl_dBy b (8 * k + 1)
        rw [show b.drop (8 * k + 1) = r.drop (8 * k) by rw [hcr]; rfl] at hsl
        simp (disch := omega) only [go_sem, Nat.reduceEqDiff, Nat.reduceAdd, Nat.reduceMul, Nat.reduceSub, Nat.reduceLeDiff, ↓reduceIte, reduceCtorEq, Int.reduceAdd, Int.reduceSub, Int.reduceMul, Int.reduceNeg, Int.reduceToNat, List.reduceReplicate, String.reduceEq, n1, n2, n3, n4, h1x, h2x, h3x, h4x, hw3, hs']
        refine dwp_draws (by kernel_rfl) (.take 0 (.take 1 (.take 2 (.take 3 (.take 4 (.go 5 [3, 2, 1] (.go 6 [4, 3, 2] .done))))))) (by kernel_rfl) ?_
        simp (disch := omega) only [go_sem, Nat.reduceEqDiff, Nat.reduceAdd, Nat.reduceMul, Nat.reduceSub, Nat.reduceLeDiff, ↓reduceIte, reduceCtorEq, Int.reduceAdd, Int.reduceSub, Int.reduceMul, Int.reduceNeg, Int.reduceToNat, List.reduceReplicate, String.reduceEq, n1, n2, n3, n4, h1x, h2x, h3x, h4x, hw3, hs', Int.toNat_natCast, hdl, hsl, dBy_length]
        refine (word_spec (G := G) (r.drop (8 * k)) hl8 (by rw [List.length_drop]; omega)).mono ?_
        rintro _ H2 ⟨rfl, rfl⟩
        simp (disch := omega) only [go_sem, Nat.reduceEqDiff, Nat.reduceAdd, Nat.reduceMul, Nat.reduceSub, Nat.reduceLeDiff, ↓reduceIte, reduceCtorEq, Int.reduceAdd, Int.reduceSub, Int.reduceMul, Int.reduceNeg, Int.reduceToNat, List.reduceReplicate, String.reduceEq, n1, n2, n3, n4, h1x, h2x, h3x, h4x, hw3, hs']
        refine (setF_spec (G := G) (x := y) (e := 53) hpF _ (by rw [over_upd, if_neg n2, over_x hX2])).mono ?_
        rintro _ H2 ⟨rfl, rfl⟩
        simp (disch := omega) only [go_sem, Nat.reduceEqDiff, Nat.reduceAdd, Nat.reduceMul, Nat.reduceSub, Nat.reduceLeDiff, ↓reduceIte, reduceCtorEq, Int.reduceAdd, Int.reduceSub, Int.reduceMul, Int.reduceNeg, Int.reduceToNat, List.reduceReplicate, String.reduceEq, n1, n2, n3, n4, h1x, h2x, h3x, h4x, hw3, hs', a1, a5, a3, a4, a7, a8, a9, a10, List.length_cons, List.length_nil]
        refine ⟨_, rfl, ((hd.hi hH6 _).st (r := r2) (by simp only [upd, if_neg n2]; exact hX2) _).st (r := r3) (by simp only [upd, if_neg a4, if_neg n3]; exact hX3) _, setI y p.1 (wordL (r.drop (8 * k))), ?_, ?_, ?_, ?_, hsn⟩
        · simp only [upd, if_neg n1, if_neg a1, if_neg a5]; exact hX1
        · simp [upd, a3]
        · simp [upd]
        · simp only [upd, if_neg a8, if_neg a10, if_neg n4]; exact hX4
    · rintro X hd ⟨y, hX1, hX2, hX3, hX4, hld⟩
      rw [List.length_map] at hX3 hld
      rw [List.take_length] at hld
      have hyo : y.op = (c.toNat : Int) := loadB_op _ _ _ _ hld
      have h2x : over H X r2 = some (.cells (dInsn y) 53) := over_x hX2
      have h3x : over H X r3 = some (.cells [dI ((8 * fs.length + 1 : Nat) : Int)] 3) := over_x hX3
      have h4x : over H X r4 = some (.cells [dI 0] 25) := over_x hX4
      simp (disch := omega) only [go_sem, Nat.reduceEqDiff, Nat.reduceAdd, Nat.reduceMul, Nat.reduceSub, Nat.reduceLeDiff, ↓reduceIte, reduceCtorEq, Int.reduceAdd, Int.reduceSub, Int.reduceMul, Int.reduceNeg, Int.reduceToNat, List.reduceReplicate, String.reduceEq, h2x, h3x, h4x, List.length_cons, List.length_nil, dInsn_len, hdt]
      refine (mayI_spec hG _ y (by omega) (by omega)).mono ?_
      rintro _ H1 ⟨rfl, rfl⟩
      cases hm : mayI y with
      | false =>
        have hg : getB b = none := by rw [hcr]; exact getB_none2 (by rw [← hfs]; exact hld) hm
        simp (disch := omega) only [go_sem, Nat.reduceEqDiff, Nat.reduceAdd, Nat.reduceMul, Nat.reduceSub, Nat.reduceLeDiff, ↓reduceIte, reduceCtorEq, Int.reduceAdd, Int.reduceSub, Int.reduceMul, Int.reduceNeg, Int.reduceToNat, List.reduceReplicate, String.reduceEq, h2x, h3x, h4x, hz, hone, hdr, hdt, dInsn_len, List.append_nil, a3, a4, a7, a8, a9, a10, List.length_cons, List.length_nil]
        exact DFin.sub (sub_over (Sub.refl _) (((hd.st hX2 _).st (r := r3) (by simp only [upd, if_neg a4]; exact hX3) _).st (r := r4) (by simp only [upd, if_neg a8, if_neg a10]; exact hX4) _)) (DFin.refl ⟨by rw [getBD_none hg], rfl⟩)
      | true =>
        have hg : getBD b = (y, ((1 + 8 * fs.length : Nat) : Int), 0) := by rw [hcr, hfs]; exact getB_some (by rw [← hfs]; exact hld) hm
        simp (disch := omega) only [go_sem, Nat.reduceEqDiff, Nat.reduceAdd, Nat.reduceMul, Nat.reduceSub, Nat.reduceLeDiff, ↓reduceIte, reduceCtorEq, Int.reduceAdd, Int.reduceSub, Int.reduceMul, Int.reduceNeg, Int.reduceToNat, List.reduceReplicate, String.reduceEq, h2x, h3x, h4x]
        refine dwp_draws (by kernel_rfl) (.take 0 (.take 1 (.go 2 [1] (.go 3 [] (.go 4 [] .done))))) (by kernel_rfl) ?_
        simp (disch := omega) only [go_sem, Nat.reduceEqDiff, Nat.reduceAdd, Nat.reduceMul, Nat.reduceSub, Nat.reduceLeDiff, ↓reduceIte, reduceCtorEq, Int.reduceAdd, Int.reduceSub, Int.reduceMul, Int.reduceNeg, Int.reduceToNat, List.reduceReplicate, String.reduceEq, h2x, h3x, h4x, hz, hone, hdr, hdt, dInsn_len, List.append_nil, a3, a4, a7, a8, a9, a10, List.length_cons, List.length_nil]
        exact DFin.sub (sub_over (Sub.refl _) (((hd.st hX2 _).st (r := r3) (by simp only [upd, if_neg a4]; exact hX3) _).st (r := r4) (by simp only [upd, if_neg a8, if_neg a10]; exact hX4) _)) (DFin.refl ⟨by rw [hg, Nat.add_comm 1], rfl⟩)
    · rintro j X hd ⟨rfl, hX2, hX3, hX4, hg⟩
      have h2x : over H X r2 = some (.cells (dInsn (op0 0)) 53) := over_x hX2
      have h3x : over H X r3 = some (.cells [dI 0] 3) := over_x hX3
      have h4x : over H X r4 = some (.cells [dI 220] 25) := over_x hX4
      simp only [DJump]
      simp (disch := omega) only [go_sem, Nat.reduceEqDiff, Nat.reduceAdd, Nat.reduceMul, Nat.reduceSub, Nat.reduceLeDiff, ↓reduceIte, reduceCtorEq, Int.reduceAdd, Int.reduceSub, Int.reduceMul, Int.reduceNeg, Int.reduceToNat, List.reduceReplicate, String.reduceEq, h2x, h3x, h4x, List.length_cons, List.length_nil, dInsn_len, hdt]
      exact DFin.sub (sub_over (Sub.refl _) hd) (DFin.refl ⟨by rw [getBD_none hg], rfl⟩)
end Go.Dl


-- Chapter 22: Put of the reference.
namespace Go.Dl
open Go Go.Proofs
set_option maxRecDepth 10000

/-- Among other values that point nowhere. -/
theorem GhostE.sub1' {H H' : DHeap} {v v' : DVal} (h : GhostE H v H' v') {pre post : List DVal} (hp : loose.looses pre = true) (hq : loose.looses post = true) (w : World) (hw : SimHeap w H) : ∀ xs, RelL w H (pre ++ v :: post) xs → RelL w H' (pre ++ v' :: post) xs := by
  intro xs hx
  have e : xs = xs.take pre.length ++ xs.drop pre.length := (List.take_append_drop _ _).symm
  have h1 := hx.take pre.length
  have h2 := hx.drop pre.length
  rw [List.take_left] at h1
  rw [List.drop_left] at h2
  rw [e]
  refine (looses_rel _ _ hp h1).append ?_
  simp only [RelL] at h2 ⊢
  obtain ⟨y, ys, h3, h4, h5⟩ := h2
  rw [h3]
  exact ⟨y, ys, rfl, (h w hw).2.2 y h4, looses_rel _ _ hq h5⟩
theorem GhostE.tuple1' {H H' : DHeap} {v v' : DVal} (h : GhostE H v H' v') {pre post : List DVal} (hp : loose.looses pre = true) (hq : loose.looses post = true) : GhostE H (.tuple (pre ++ v :: post)) H' (.tuple (pre ++ v' :: post)) := fun w hw =>
  ⟨(h w hw).1, (h w hw).2.1, fun x hx => by
    simp only [Rel] at hx ⊢
    obtain ⟨xs, rfl, hl⟩ := hx
    exact ⟨xs, rfl, h.sub1' hp hq w hw _ hl⟩⟩

/-- What Put returns. -/
def putID (x : Insn) : List UInt8 × Int := if mayI x then (bytesI x, 0) else ([], 2)
/-- The bytes of the operation and of the first fields. -/
def bytesIk (x : Insn) (k : Nat) : List UInt8 := UInt8.ofNat x.op.toNat :: (((fieldsI x.op).take k).map fun f => getI x f.1).flatMap eightL
theorem bytesIk_succ {x : Insn} {k : Nat} {p : Int × Int × Int} (h : (fieldsI x.op)[k]? = some p) : bytesIk x (k + 1) = bytesIk x k ++ eightL (getI x p.1) := by
  rw [bytesIk, List.take_add_one, h, Option.toList_some, List.map_append, List.map_cons, List.map_nil, List.flatMap_append, bytesIk, List.cons_append]
  simp
theorem bytesIk_all (x : Insn) : bytesIk x (fieldsI x.op).length = bytesI x := by rw [bytesIk, List.take_length]; rfl
theorem take8 (v : Int) : List.take 8 (dBy (eightL v)) = dBy (eightL v) := List.take_of_length_le (by rw [dBy_length, eightL_length]; exact Nat.le_refl _)
theorem len8 (v : Int) : (dBy (eightL v)).length = 8 := by rw [dBy_length, eightL_length]
theorem one_by (l : List UInt8) : ((dBy l).all fun d => d.one) = true := List.all_eq_true.2 fun d hd => by obtain ⟨_, _, rfl⟩ := List.mem_map.1 hd; rfl

set_option maxHeartbeats 8000000 in
theorem rput_spec (G : Nat → DVal) (H : DHeap) (x : Insn) (p0 : 0 ≤ x.op) (p1 : x.op < 256) : DCalls Tryd.prog G 32 [.agg (dInsn x)] H (DRet (.tuple [.vslice (dBy (putID x).1) (putID x).1.length, dI (putID x).2]) H) := by
  have hx0 : (dInsn x)[0]? = some (.int .u8 x.op) := rfl
  have hdt : (dInsn x).take 7 = dInsn x := rfl
  refine dcalls_intro Tryd.func32 Tryd.call32 rfl (by kernel_rfl) ?_
  simp (disch := omega) only [go_sem, Nat.reduceEqDiff, Nat.reduceAdd, Nat.reduceMul, Nat.reduceSub, Nat.reduceLeDiff, ↓reduceIte, reduceCtorEq, Int.reduceAdd, Int.reduceSub, Int.reduceMul, Int.reduceNeg, Int.reduceToNat, List.reduceReplicate, String.reduceEq, DVal.cells]
  intro r1 hr1; dsimp only at hr1
  simp (disch := omega) only [go_sem, Nat.reduceEqDiff, Nat.reduceAdd, Nat.reduceMul, Nat.reduceSub, Nat.reduceLeDiff, ↓reduceIte, reduceCtorEq, Int.reduceAdd, Int.reduceSub, Int.reduceMul, Int.reduceNeg, Int.reduceToNat, List.reduceReplicate, String.reduceEq, hdt, dInsn_len]
  refine (rmayI_spec G _ x p0 p1).mono ?_
  rintro _ H1 ⟨rfl, rfl⟩
  cases hm : mayI x with
  | false =>
    simp (disch := omega) only [go_sem, Nat.reduceEqDiff, Nat.reduceAdd, Nat.reduceMul, Nat.reduceSub, Nat.reduceLeDiff, ↓reduceIte, reduceCtorEq, Int.reduceAdd, Int.reduceSub, Int.reduceMul, Int.reduceNeg, Int.reduceToNat, List.reduceReplicate, String.reduceEq]
    refine DFin.dropA r1 hr1 (DFin.ghost (GhostE.tuple1' (pre := []) (post := [dI 2]) (OwnJ.ghost (OwnJ.nil 5 1 (Sub.refl H))) rfl rfl) (DFin.refl ⟨by rw [putID, hm]; rfl, rfl⟩))
  | true =>
    have hop := mayI_at hm
    have ho : isO x.op = true := by simp [isO]; omega
    obtain ⟨hfl, hnd, hfok⟩ := fieldsI_ok x.op
    have hall := bytesIk_all x
    obtain ⟨fs, hfs⟩ : ∃ fs, fs = fieldsI x.op := ⟨_, rfl⟩
    have hsucc : ∀ k p, fs[k]? = some p → bytesIk x (k + 1) = bytesIk x k ++ eightL (getI x p.1) := fun k p h => bytesIk_succ (by rw [← hfs]; exact h)
    have hw := mayI_w hm
    simp (disch := omega) only [go_sem, Nat.reduceEqDiff, Nat.reduceAdd, Nat.reduceMul, Nat.reduceSub, Nat.reduceLeDiff, ↓reduceIte, reduceCtorEq, Int.reduceAdd, Int.reduceSub, Int.reduceMul, Int.reduceNeg, Int.reduceToNat, List.reduceReplicate, String.reduceEq, hx0]
    refine (rfind_spec G _ x.op p0 p1).mono ?_
    rintro _ H1 ⟨rfl, rfl⟩
    rw [dRRow_at]
    rw [← hfs] at hfl hnd hfok hall hw ⊢
    rw [(rrAt_op ho).1]
    simp (disch := omega) only [go_sem, Nat.reduceEqDiff, Nat.reduceAdd, Nat.reduceMul, Nat.reduceSub, Nat.reduceLeDiff, ↓reduceIte, reduceCtorEq, Int.reduceAdd, Int.reduceSub, Int.reduceMul, Int.reduceNeg, Int.reduceToNat, List.reduceReplicate, String.reduceEq, DVal.cells]
    intro r4 hr4; dsimp only at hr4
    obtain ⟨m2, m1, hr4'⟩ := upd_eq_none.1 hr4
    simp (disch := omega) only [go_sem, Nat.reduceEqDiff, Nat.reduceAdd, Nat.reduceMul, Nat.reduceSub, Nat.reduceLeDiff, ↓reduceIte, reduceCtorEq, Int.reduceAdd, Int.reduceSub, Int.reduceMul, Int.reduceNeg, Int.reduceToNat, List.reduceReplicate, String.reduceEq, m1, m2, hx0]
    intro rb hrb; dsimp only at hrb
    simp (disch := omega) only [go_sem, Nat.reduceEqDiff, Nat.reduceAdd, Nat.reduceMul, Nat.reduceSub, Nat.reduceLeDiff, ↓reduceIte, reduceCtorEq, Int.reduceAdd, Int.reduceSub, Int.reduceMul, Int.reduceNeg, Int.reduceToNat, List.reduceReplicate, String.reduceEq, m1, m2, hx0]
    obtain ⟨q2, q1, hrb1⟩ := upd_eq_none.1 hrb
    have hv0 : OwnJ (upd (upd H r1 (some (.cells (dInsn x) 53))) r4 (some (.cells [.int .u8 x.op, .str (rrAt x.op).2.1, .vslice (fs.flatMap dFld) fs.length] 65))) 5 1 1 (dBy (bytesIk x 0)) (.oslice 1 rb 0 1 1) (upd (upd (upd H r1 (some (.cells (dInsn x) 53))) r4 (some (.cells [.int .u8 x.op, .str (rrAt x.op).2.1, .vslice (fs.flatMap dFld) fs.length] 65))) rb (some (.cells [.int .u8 x.op] 5))) := by
      refine .inr ⟨rb, hrb, rfl, rfl, ?_, (Sub.refl _).new hrb _⟩
      have : (UInt8.ofNat x.op.toNat).toNat = x.op.toNat := by rw [UInt8.toNat_ofNat']; omega
      simp only [upd_same, bytesIk, dBy, List.take_zero, List.map_nil, List.flatMap_nil, List.map_cons, this, Int.toNat_of_nonneg p0]
    obtain ⟨I, hI⟩ : ∃ I : Nat → (Nat → DVal) → DHeap → Prop, ∀ k env heap, I k env heap ↔ (env 1 = .optr r1 0 ∧ env 4 = .optr r4 0 ∧ env 7 = dI k ∧ k ≤ fs.length ∧ OwnJ (upd (upd H r1 (some (.cells (dInsn x) 53))) r4 (some (.cells [.int .u8 x.op, .str (rrAt x.op).2.1, .vslice (fs.flatMap dFld) fs.length] 65))) 5 1 (1 + 8 * k) (dBy (bytesIk x k)) (env 6) heap) := ⟨_, fun _ _ _ => Iff.rfl⟩
    refine DLoop.run I (fun k => fs.length - k) 0 ((hI _ _ _).2 ?_) ?_
    · simp (disch := omega) only [go_sem, Nat.reduceEqDiff, Nat.reduceAdd, Nat.reduceMul, Nat.reduceSub, Nat.reduceLeDiff, ↓reduceIte, reduceCtorEq, Int.reduceAdd, Int.reduceSub, Int.reduceMul, Int.reduceNeg, Int.reduceToNat, List.reduceReplicate, String.reduceEq]
      (repeat' apply And.intro) <;> (try first | rfl | assumption | omega)
    · intro k env heap hi
      obtain ⟨e1, e4, e7, hk, hv⟩ := (hI _ _ _).1 hi
      have h1 : heap r1 = some (.cells (dInsn x) 53) := hv.keep (by simp [upd, m1])
      have h4 : heap r4 = some (.cells [.int .u8 x.op, .str (rrAt x.op).2.1, .vslice (fs.flatMap dFld) fs.length] 65) := hv.keep (by simp [upd])
      by_cases hlt : k < fs.length
      · have hfk := List.getElem?_eq_getElem hlt
        have hg0 : (fs.flatMap dFld)[k * 3]? = (dFld fs[k])[0]? := flat_get dFld_length fs k hlt 0 (by omega)
        obtain ⟨p, hp⟩ : ∃ p, fs[k] = p := ⟨_, rfl⟩
        rw [hp] at hfk hg0
        have hpm := List.mem_of_getElem? hfk
        have hpF := (hfok p hpm).1
        simp (disch := omega) only [go_sem, Nat.reduceEqDiff, Nat.reduceAdd, Nat.reduceMul, Nat.reduceSub, Nat.reduceLeDiff, ↓reduceIte, reduceCtorEq, Int.reduceAdd, Int.reduceSub, Int.reduceMul, Int.reduceNeg, Int.reduceToNat, List.reduceReplicate, String.reduceEq, e1, e4, e7, h1, h4, hlt]
        refine dwp_draws (by kernel_rfl) (.take 0 (.take 1 (.take 2 (.take 3 (.take 4 (.take 5 (.take 6 (.take 7 (.go 8 [3] (.go 9 [7, 3, 1] (.go 10 [7, 3, 1] (.take 11 .done)))))))))))) (by kernel_rfl) ?_
        simp (disch := omega) only [go_sem, Nat.reduceEqDiff, Nat.reduceAdd, Nat.reduceMul, Nat.reduceSub, Nat.reduceLeDiff, ↓reduceIte, reduceCtorEq, Int.reduceAdd, Int.reduceSub, Int.reduceMul, Int.reduceNeg, Int.reduceToNat, List.reduceReplicate, String.reduceEq, e1, e4, e7, h1, h4, hlt, hdt, dInsn_len, flat_len dFld_length, hg0, dFld]
        refine (value_spec G _ x p.1 hpF).mono ?_
        rintro _ H1 ⟨rfl, rfl⟩
        simp (disch := omega) only [go_sem, Nat.reduceEqDiff, Nat.reduceAdd, Nat.reduceMul, Nat.reduceSub, Nat.reduceLeDiff, ↓reduceIte, reduceCtorEq, Int.reduceAdd, Int.reduceSub, Int.reduceMul, Int.reduceNeg, Int.reduceToNat, List.reduceReplicate, String.reduceEq, e1, e4, e7, h1, h4, hlt]
        refine (reight_spec (G := G) (getI x p.1) (hw p hpm)).mono ?_
        rintro _ H1 ⟨rfl, rfl⟩
        simp (disch := omega) only [go_sem, Nat.reduceEqDiff, Nat.reduceAdd, Nat.reduceMul, Nat.reduceSub, Nat.reduceLeDiff, ↓reduceIte, reduceCtorEq, Int.reduceAdd, Int.reduceSub, Int.reduceMul, Int.reduceNeg, Int.reduceToNat, List.reduceReplicate, String.reduceEq, e1, e4, e7, h1, h4, hlt, take8, len8, one_by]
        refine OwnJ.append (m := 8) (bytes := 1) (news := dBy (eightL (getI x p.1))) hv (by simp [dBy_length, eightL_length]) (by omega) fun v2 H2 hv2 => ?_
        have h1' : H2 r1 = some (.cells (dInsn x) 53) := hv2.keep (by simp [upd, m1])
        have h4' : H2 r4 = some (.cells [.int .u8 x.op, .str (rrAt x.op).2.1, .vslice (fs.flatMap dFld) fs.length] 65) := hv2.keep (by simp [upd])
        simp (disch := omega) only [go_sem, Nat.reduceEqDiff, Nat.reduceAdd, Nat.reduceMul, Nat.reduceSub, Nat.reduceLeDiff, ↓reduceIte, reduceCtorEq, Int.reduceAdd, Int.reduceSub, Int.reduceMul, Int.reduceNeg, Int.reduceToNat, List.reduceReplicate, String.reduceEq, e1, e4, e7, h1', h4', h1, h4, hlt]
        refine ⟨k + 1, _, GhostS.refl _, (hI _ _ _).2 ?_, by omega⟩
        simp (disch := omega) only [go_sem, Nat.reduceEqDiff, Nat.reduceAdd, Nat.reduceMul, Nat.reduceSub, Nat.reduceLeDiff, ↓reduceIte, reduceCtorEq, Int.reduceAdd, Int.reduceSub, Int.reduceMul, Int.reduceNeg, Int.reduceToNat, List.reduceReplicate, String.reduceEq, e1, e4, e7]
        (repeat' apply And.intro) <;> (try first | rfl | assumption | omega)
        rw [hsucc k p hfk, dBy_append]
        exact hv2
      · have hkl : k = fs.length := by omega
        subst hkl
        simp (disch := omega) only [go_sem, Nat.reduceEqDiff, Nat.reduceAdd, Nat.reduceMul, Nat.reduceSub, Nat.reduceLeDiff, ↓reduceIte, reduceCtorEq, Int.reduceAdd, Int.reduceSub, Int.reduceMul, Int.reduceNeg, Int.reduceToNat, List.reduceReplicate, String.reduceEq, e1, e4, e7, h1, h4, hlt]
        have hlen : (bytesI x).length = 1 + 8 * fs.length := by rw [bytesI_length, hfs]
        refine DFin.ghost (GhostE.tuple1' (pre := []) (post := [dI 0]) (hv.less (show Sub H _ from (by repeat (first | exact Sub.refl _ | assumption | refine Sub.up ?_ (by assumption) _)))).ghost rfl rfl) (DFin.refl ⟨?_, rfl⟩)
        rw [putID, hm, if_pos rfl, hall, hlen]
        rfl
end Go.Dl
