/- The data level and the contracts of the functions that are reached (part 9). -/
import Derived.Test.YtojpnjngdiimhaaGreatDoorXh
set_option linter.unusedSimpArgs false
set_option linter.unusedVariables false
-- Chapter 2: the reference's May, Same; LexMays.
namespace Go.Dl
open Go Go.Proofs
set_option maxRecDepth 100000

theorem sameT_eq (a b : Tok) : sameT a b = (decide (a.kind = b.kind) && (decide (a.text = b.text) && decide (a.n = b.n))) := by
  rw [sameT]; cases a; cases b
  simp only [Tok.mk.injEq, Bool.decide_and, decide_true, Bool.true_and]
theorem sameL_refl : ∀ l : List Tok, sameL l l = true
  | [] => rfl
  | a :: l => by rw [sameL, sameL_refl l, sameT_eq]; simp
theorem sameL_false {l m : List Tok} (h : l.length ≠ m.length) : sameL l m = false := by
  cases e : sameL l m with
  | false => rfl
  | true => exact absurd (sameL_len l m e) h
section
variable {G : Nat → DVal} {H : DHeap}
theorem rmay_spec (G : Nat → DVal) (H : DHeap) (t : Tok) : DCalls Tryz.prog G 21 [.agg (dTok t)] H (DRet (.bool (mayT t)) H) := by
  refine dcalls_intro Tryz.func21 Tryz.call21 rfl (by kernel_rfl) ?_
  simp (disch := omega) only [go_sem, Nat.reduceEqDiff, Nat.reduceAdd, Nat.reduceMul, Nat.reduceSub, Nat.reduceLeDiff, ↓reduceIte, reduceCtorEq, Int.reduceAdd, Int.reduceSub, Int.reduceMul, Int.reduceNeg, Int.reduceToNat, List.reduceReplicate, String.reduceEq, DVal.cells]
  intro r hr; dsimp only at hr
  by_cases k1 : t.kind = 1
  · by_cases n0 : t.n = 0
    · simp (disch := omega) only [go_sem, Nat.reduceEqDiff, Nat.reduceAdd, Nat.reduceMul, Nat.reduceSub, Nat.reduceLeDiff, ↓reduceIte, reduceCtorEq, Int.reduceAdd, Int.reduceSub, Int.reduceMul, Int.reduceNeg, Int.reduceToNat, List.reduceReplicate, String.reduceEq, dTok_len, dTok_0, dTok_1, dTok_2, dTok_3, k1, n0]
      refine (rname_spec G _ t.text).mono ?_
      rintro _ H1 ⟨rfl, rfl⟩
      simp (disch := omega) only [go_sem, Nat.reduceEqDiff, Nat.reduceAdd, Nat.reduceMul, Nat.reduceSub, Nat.reduceLeDiff, ↓reduceIte, reduceCtorEq, Int.reduceAdd, Int.reduceSub, Int.reduceMul, Int.reduceNeg, Int.reduceToNat, List.reduceReplicate, String.reduceEq]
      refine DFin.dropA r hr (DFin.refl ⟨?_, rfl⟩)
      simp [mayT, k1, n0]
    · simp (disch := omega) only [go_sem, Nat.reduceEqDiff, Nat.reduceAdd, Nat.reduceMul, Nat.reduceSub, Nat.reduceLeDiff, ↓reduceIte, reduceCtorEq, Int.reduceAdd, Int.reduceSub, Int.reduceMul, Int.reduceNeg, Int.reduceToNat, List.reduceReplicate, String.reduceEq, dTok_len, dTok_0, dTok_1, dTok_2, dTok_3, k1, n0]
      refine DFin.dropA r hr (DFin.refl ⟨?_, rfl⟩)
      simp [mayT, k1, n0]
  by_cases k2 : t.kind = 2
  · by_cases n0 : t.n = 0
    · simp (disch := omega) only [go_sem, Nat.reduceEqDiff, Nat.reduceAdd, Nat.reduceMul, Nat.reduceSub, Nat.reduceLeDiff, ↓reduceIte, reduceCtorEq, Int.reduceAdd, Int.reduceSub, Int.reduceMul, Int.reduceNeg, Int.reduceToNat, List.reduceReplicate, String.reduceEq, dTok_len, dTok_0, dTok_1, dTok_2, dTok_3, k1, k2, n0]
      refine (rkey_spec G _ t.text).mono ?_
      rintro _ H1 ⟨rfl, rfl⟩
      simp (disch := omega) only [go_sem, Nat.reduceEqDiff, Nat.reduceAdd, Nat.reduceMul, Nat.reduceSub, Nat.reduceLeDiff, ↓reduceIte, reduceCtorEq, Int.reduceAdd, Int.reduceSub, Int.reduceMul, Int.reduceNeg, Int.reduceToNat, List.reduceReplicate, String.reduceEq]
      refine DFin.dropA r hr (DFin.refl ⟨?_, rfl⟩)
      simp [mayT, k2, n0]
    · simp (disch := omega) only [go_sem, Nat.reduceEqDiff, Nat.reduceAdd, Nat.reduceMul, Nat.reduceSub, Nat.reduceLeDiff, ↓reduceIte, reduceCtorEq, Int.reduceAdd, Int.reduceSub, Int.reduceMul, Int.reduceNeg, Int.reduceToNat, List.reduceReplicate, String.reduceEq, dTok_len, dTok_0, dTok_1, dTok_2, dTok_3, k1, k2, n0]
      refine DFin.dropA r hr (DFin.refl ⟨?_, rfl⟩)
      simp [mayT, k2, n0]
  by_cases k4 : t.kind = 4
  · by_cases n0 : t.n = 0
    · simp (disch := omega) only [go_sem, Nat.reduceEqDiff, Nat.reduceAdd, Nat.reduceMul, Nat.reduceSub, Nat.reduceLeDiff, ↓reduceIte, reduceCtorEq, Int.reduceAdd, Int.reduceSub, Int.reduceMul, Int.reduceNeg, Int.reduceToNat, List.reduceReplicate, String.reduceEq, dTok_len, dTok_0, dTok_1, dTok_2, dTok_3, k1, k2, k4, n0]
      refine (rsymbol_spec G _ t.text).mono ?_
      rintro _ H1 ⟨rfl, rfl⟩
      simp (disch := omega) only [go_sem, Nat.reduceEqDiff, Nat.reduceAdd, Nat.reduceMul, Nat.reduceSub, Nat.reduceLeDiff, ↓reduceIte, reduceCtorEq, Int.reduceAdd, Int.reduceSub, Int.reduceMul, Int.reduceNeg, Int.reduceToNat, List.reduceReplicate, String.reduceEq]
      refine DFin.dropA r hr (DFin.refl ⟨?_, rfl⟩)
      simp [mayT, k4, n0]
    · simp (disch := omega) only [go_sem, Nat.reduceEqDiff, Nat.reduceAdd, Nat.reduceMul, Nat.reduceSub, Nat.reduceLeDiff, ↓reduceIte, reduceCtorEq, Int.reduceAdd, Int.reduceSub, Int.reduceMul, Int.reduceNeg, Int.reduceToNat, List.reduceReplicate, String.reduceEq, dTok_len, dTok_0, dTok_1, dTok_2, dTok_3, k1, k2, k4, n0]
      refine DFin.dropA r hr (DFin.refl ⟨?_, rfl⟩)
      simp [mayT, k4, n0]
  have hm : mayT t = (decide (t.kind = 3) && decide (t.text = []) && decide (0 ≤ t.n) && decide (t.n ≤ 2147483647)) := by
    rw [mayT, if_neg k1, if_neg k2, if_neg k4]
  rw [hm]
  by_cases k3 : t.kind = 3
  · by_cases t0 : t.text = []
    · by_cases n0 : 0 ≤ t.n
      · simp (disch := omega) only [go_sem, Nat.reduceEqDiff, Nat.reduceAdd, Nat.reduceMul, Nat.reduceSub, Nat.reduceLeDiff, ↓reduceIte, reduceCtorEq, Int.reduceAdd, Int.reduceSub, Int.reduceMul, Int.reduceNeg, Int.reduceToNat, List.reduceReplicate, String.reduceEq, dTok_len, dTok_0, dTok_1, dTok_2, dTok_3, k1, k2, k4, k3, t0, n0]
        exact DFin.dropA r hr (DFin.refl ⟨by simp, rfl⟩)
      · simp (disch := omega) only [go_sem, Nat.reduceEqDiff, Nat.reduceAdd, Nat.reduceMul, Nat.reduceSub, Nat.reduceLeDiff, ↓reduceIte, reduceCtorEq, Int.reduceAdd, Int.reduceSub, Int.reduceMul, Int.reduceNeg, Int.reduceToNat, List.reduceReplicate, String.reduceEq, dTok_len, dTok_0, dTok_1, dTok_2, dTok_3, k1, k2, k4, k3, t0, n0]
        exact DFin.dropA r hr (DFin.refl ⟨by simp, rfl⟩)
    · simp (disch := omega) only [go_sem, Nat.reduceEqDiff, Nat.reduceAdd, Nat.reduceMul, Nat.reduceSub, Nat.reduceLeDiff, ↓reduceIte, reduceCtorEq, Int.reduceAdd, Int.reduceSub, Int.reduceMul, Int.reduceNeg, Int.reduceToNat, List.reduceReplicate, String.reduceEq, dTok_len, dTok_0, dTok_1, dTok_2, dTok_3, k1, k2, k4, k3, t0]
      exact DFin.dropA r hr (DFin.refl ⟨by simp, rfl⟩)
  · simp (disch := omega) only [go_sem, Nat.reduceEqDiff, Nat.reduceAdd, Nat.reduceMul, Nat.reduceSub, Nat.reduceLeDiff, ↓reduceIte, reduceCtorEq, Int.reduceAdd, Int.reduceSub, Int.reduceMul, Int.reduceNeg, Int.reduceToNat, List.reduceReplicate, String.reduceEq, dTok_len, dTok_0, dTok_1, dTok_2, dTok_3, k1, k2, k4, k3]
    exact DFin.dropA r hr (DFin.refl ⟨by simp, rfl⟩)
theorem rsame_spec (G : Nat → DVal) (H : DHeap) (l m : List Tok) (hl : l.length ≤ 1000000000) : DCalls Tryz.prog G 23 [dToks l, dToks m] H (DRet (.bool (sameL l m)) H) := by
  refine dcalls_intro Tryz.func23 Tryz.call23 rfl (by kernel_rfl) ?_
  by_cases hlen : l.length = m.length
  · have hlen' : (l.length : Int) = (m.length : Int) := by omega
    simp (disch := omega) only [go_sem, Nat.reduceEqDiff, Nat.reduceAdd, Nat.reduceMul, Nat.reduceSub, Nat.reduceLeDiff, ↓reduceIte, reduceCtorEq, Int.reduceAdd, Int.reduceSub, Int.reduceMul, Int.reduceNeg, Int.reduceToNat, List.reduceReplicate, String.reduceEq, dToks, hlen']
    obtain ⟨I, hI⟩ : ∃ I : Nat → (Nat → DVal) → DHeap → Prop, ∀ k env heap, I k env heap ↔ (env 0 = .vslice (l.flatMap dTok) l.length ∧ env 1 = .vslice (m.flatMap dTok) m.length ∧ env 5 = dI k ∧ k ≤ l.length ∧ sameL l m = sameL (l.drop k) (m.drop k) ∧ heap = H) := ⟨_, fun _ _ _ => Iff.rfl⟩
    refine DLoop.run I (fun k => l.length - k) 0 ((hI _ _ _).2 ?_) ?_
    · simp (disch := omega) only [go_sem, Nat.reduceEqDiff, Nat.reduceAdd, Nat.reduceMul, Nat.reduceSub, Nat.reduceLeDiff, ↓reduceIte, reduceCtorEq, Int.reduceAdd, Int.reduceSub, Int.reduceMul, Int.reduceNeg, Int.reduceToNat, List.reduceReplicate, String.reduceEq]
      (repeat' apply And.intro) <;> (try first | rfl | assumption | omega)
    · intro k env heap hi
      obtain ⟨e0, e1, e5, hk, hsm, rfl⟩ := (hI _ _ _).1 hi
      have hfl := flat_len dTok_len l
      have hfm := flat_len dTok_len m
      by_cases hlt : k < l.length
      · have hlt' : (k : Int) < (m.length : Int) := by omega
        have hlt2 : (k : Int) < (l.length : Int) := by omega
        have hkm : k < m.length := by omega
        have g0 : (l.flatMap dTok)[k * 4]? = some (.int .u8 l[k].kind) := flat_get dTok_len l k hlt 0 (by omega)
        have g2 : (l.flatMap dTok)[k * 4 + 2]? = some (.str l[k].text) := flat_get dTok_len l k hlt 2 (by omega)
        have g3 : (l.flatMap dTok)[k * 4 + 3]? = some (dI l[k].n) := flat_get dTok_len l k hlt 3 (by omega)
        have m0 : (m.flatMap dTok)[k * 4]? = some (.int .u8 m[k].kind) := flat_get dTok_len m k hkm 0 (by omega)
        have m2 : (m.flatMap dTok)[k * 4 + 2]? = some (.str m[k].text) := flat_get dTok_len m k hkm 2 (by omega)
        have m3 : (m.flatMap dTok)[k * 4 + 3]? = some (dI m[k].n) := flat_get dTok_len m k hkm 3 (by omega)
        have hwd : IntKind.i64.wrap ((k : Int) + 1) = ((k + 1 : Nat) : Int) := by rw [IntKind.wrap_i64]; omega
        have hst := sameL_step hlt hkm
        rw [hst, sameT_eq] at hsm
        simp (disch := omega) only [go_sem, Nat.reduceEqDiff, Nat.reduceAdd, Nat.reduceMul, Nat.reduceSub, Nat.reduceLeDiff, ↓reduceIte, reduceCtorEq, Int.reduceAdd, Int.reduceSub, Int.reduceMul, Int.reduceNeg, Int.reduceToNat, List.reduceReplicate, String.reduceEq, e0, e1, e5, hlt', hlt2, hfl, hfm, Int.toNat_natCast]
        refine dwp_draws (by kernel_rfl) (.take 0 (.take 1 (.take 2 (.take 3 (.take 4 (.take 5 (.take 6 (.take 7 (.take 8 (.take 9 (.take 10 (.take 11 (.take 12 (.take 13 (.take 14 (.take 15 (.take 16 (.take 17 (.take 18 (.take 19 (.take 20 (.take 21 (.take 22 (.take 23 (.take 24 (.take 25 (.take 26 (.take 27 (.take 28 (.take 29 (.take 30 (.take 31 (.take 32 (.take 33 (.take 34 (.take 35 (.take 36 .done))))))))))))))))))))))))))))))))))))) (by kernel_rfl) ?_
        by_cases h1 : l[k].kind = m[k].kind
        · by_cases h2 : l[k].text = m[k].text
          · by_cases h3 : l[k].n = m[k].n
            · rw [decide_eq_true h1, decide_eq_true h2, decide_eq_true h3, Bool.true_and, Bool.true_and, Bool.true_and] at hsm
              simp (disch := omega) only [go_sem, Nat.reduceEqDiff, Nat.reduceAdd, Nat.reduceMul, Nat.reduceSub, Nat.reduceLeDiff, ↓reduceIte, reduceCtorEq, Int.reduceAdd, Int.reduceSub, Int.reduceMul, Int.reduceNeg, Int.reduceToNat, List.reduceReplicate, String.reduceEq, e0, e1, e5, hlt', hlt2, hfl, hfm, Int.toNat_natCast, g0, g2, g3, m0, m2, m3, h1, h2, h3]
              refine ⟨k + 1, _, GhostS.refl _, (hI _ _ _).2 ?_, by omega⟩
              simp (disch := omega) only [go_sem, Nat.reduceEqDiff, Nat.reduceAdd, Nat.reduceMul, Nat.reduceSub, Nat.reduceLeDiff, ↓reduceIte, reduceCtorEq, Int.reduceAdd, Int.reduceSub, Int.reduceMul, Int.reduceNeg, Int.reduceToNat, List.reduceReplicate, String.reduceEq, e0, e1, e5, hwd]
              (repeat' apply And.intro) <;> (try first | rfl | assumption | omega)
            · rw [decide_eq_false h3, Bool.and_false, Bool.and_false, Bool.false_and] at hsm
              simp (disch := omega) only [go_sem, Nat.reduceEqDiff, Nat.reduceAdd, Nat.reduceMul, Nat.reduceSub, Nat.reduceLeDiff, ↓reduceIte, reduceCtorEq, Int.reduceAdd, Int.reduceSub, Int.reduceMul, Int.reduceNeg, Int.reduceToNat, List.reduceReplicate, String.reduceEq, e0, e1, e5, hlt', hlt2, hfl, hfm, Int.toNat_natCast, g0, g2, g3, m0, m2, m3, h1, h2, h3]
              exact DFin.refl ⟨by rw [hsm], rfl⟩
          · rw [decide_eq_false h2, Bool.false_and, Bool.and_false, Bool.false_and] at hsm
            simp (disch := omega) only [go_sem, Nat.reduceEqDiff, Nat.reduceAdd, Nat.reduceMul, Nat.reduceSub, Nat.reduceLeDiff, ↓reduceIte, reduceCtorEq, Int.reduceAdd, Int.reduceSub, Int.reduceMul, Int.reduceNeg, Int.reduceToNat, List.reduceReplicate, String.reduceEq, e0, e1, e5, hlt', hlt2, hfl, hfm, Int.toNat_natCast, g0, g2, g3, m0, m2, m3, h1, h2]
            exact DFin.refl ⟨by rw [hsm], rfl⟩
        · rw [decide_eq_false h1, Bool.false_and, Bool.false_and] at hsm
          simp (disch := omega) only [go_sem, Nat.reduceEqDiff, Nat.reduceAdd, Nat.reduceMul, Nat.reduceSub, Nat.reduceLeDiff, ↓reduceIte, reduceCtorEq, Int.reduceAdd, Int.reduceSub, Int.reduceMul, Int.reduceNeg, Int.reduceToNat, List.reduceReplicate, String.reduceEq, e0, e1, e5, hlt', hlt2, hfl, hfm, Int.toNat_natCast, g0, g2, g3, m0, m2, m3, h1]
          exact DFin.refl ⟨by rw [hsm], rfl⟩
      · have : k = l.length := by omega
        subst this
        have hlt' : ¬ (l.length : Int) < (m.length : Int) := by omega
        simp (disch := omega) only [go_sem, Nat.reduceEqDiff, Nat.reduceAdd, Nat.reduceMul, Nat.reduceSub, Nat.reduceLeDiff, ↓reduceIte, reduceCtorEq, Int.reduceAdd, Int.reduceSub, Int.reduceMul, Int.reduceNeg, Int.reduceToNat, List.reduceReplicate, String.reduceEq, e0, e1, e5, hlt']
        refine DFin.refl ⟨?_, rfl⟩
        rw [hsm, List.drop_length, hlen, List.drop_length]; rfl
  · have hlen' : ¬ (l.length : Int) = (m.length : Int) := by omega
    simp (disch := omega) only [go_sem, Nat.reduceEqDiff, Nat.reduceAdd, Nat.reduceMul, Nat.reduceSub, Nat.reduceLeDiff, ↓reduceIte, reduceCtorEq, Int.reduceAdd, Int.reduceSub, Int.reduceMul, Int.reduceNeg, Int.reduceToNat, List.reduceReplicate, String.reduceEq, dToks, hlen']
    exact DFin.refl ⟨by rw [sameL_false hlen], rfl⟩
theorem lexMays_spec (hG : GX G) (H : DHeap) (a b : List Tok) (ha : ∀ t ∈ a, t.text.length ≤ 9223372036854775807) : DCalls Tryz.prog G 4 [dToks a, dToks b] H (DRet (.bool true) H) := by
  refine dcalls_intro Tryz.func4 Tryz.call4 rfl (by kernel_rfl) ?_
  by_cases h1 : 300 < a.length
  · have h1' : (300 : Int) < (a.length : Int) := by omega
    simp (disch := omega) only [go_sem, Nat.reduceEqDiff, Nat.reduceAdd, Nat.reduceMul, Nat.reduceSub, Nat.reduceLeDiff, ↓reduceIte, reduceCtorEq, Int.reduceAdd, Int.reduceSub, Int.reduceMul, Int.reduceNeg, Int.reduceToNat, List.reduceReplicate, String.reduceEq, dToks, h1']
    refine (awake_spec hG _).mono ?_
    rintro _ H1 ⟨rfl, rfl⟩
    simp (disch := omega) only [go_sem, Nat.reduceEqDiff, Nat.reduceAdd, Nat.reduceMul, Nat.reduceSub, Nat.reduceLeDiff, ↓reduceIte, reduceCtorEq, Int.reduceAdd, Int.reduceSub, Int.reduceMul, Int.reduceNeg, Int.reduceToNat, List.reduceReplicate, String.reduceEq]
    exact DFin.refl ⟨rfl, rfl⟩
  have h1' : ¬ (300 : Int) < (a.length : Int) := by omega
  by_cases h2 : 300 < b.length
  · have h2' : (300 : Int) < (b.length : Int) := by omega
    simp (disch := omega) only [go_sem, Nat.reduceEqDiff, Nat.reduceAdd, Nat.reduceMul, Nat.reduceSub, Nat.reduceLeDiff, ↓reduceIte, reduceCtorEq, Int.reduceAdd, Int.reduceSub, Int.reduceMul, Int.reduceNeg, Int.reduceToNat, List.reduceReplicate, String.reduceEq, dToks, h1', h2']
    refine (awake_spec hG _).mono ?_
    rintro _ H1 ⟨rfl, rfl⟩
    simp (disch := omega) only [go_sem, Nat.reduceEqDiff, Nat.reduceAdd, Nat.reduceMul, Nat.reduceSub, Nat.reduceLeDiff, ↓reduceIte, reduceCtorEq, Int.reduceAdd, Int.reduceSub, Int.reduceMul, Int.reduceNeg, Int.reduceToNat, List.reduceReplicate, String.reduceEq]
    exact DFin.refl ⟨rfl, rfl⟩
  have h2' : ¬ (300 : Int) < (b.length : Int) := by omega
  simp (disch := omega) only [go_sem, Nat.reduceEqDiff, Nat.reduceAdd, Nat.reduceMul, Nat.reduceSub, Nat.reduceLeDiff, ↓reduceIte, reduceCtorEq, Int.reduceAdd, Int.reduceSub, Int.reduceMul, Int.reduceNeg, Int.reduceToNat, List.reduceReplicate, String.reduceEq, dToks, h1', h2']
  obtain ⟨I, hI⟩ : ∃ I : Nat → (Nat → DVal) → DHeap → Prop, ∀ k env heap, I k env heap ↔ (env 0 = .vslice (a.flatMap dTok) a.length ∧ env 1 = .vslice (b.flatMap dTok) b.length ∧ env 16 = .vslice (a.flatMap dTok) a.length ∧ env 17 = dI a.length ∧ env 18 = dI k ∧ k ≤ a.length ∧ Sub H heap) := ⟨_, fun _ _ _ => Iff.rfl⟩
  refine DLoop.run I (fun k => a.length - k) 0 ((hI _ _ _).2 ?_) ?_
  · simp (disch := omega) only [go_sem, Nat.reduceEqDiff, Nat.reduceAdd, Nat.reduceMul, Nat.reduceSub, Nat.reduceLeDiff, ↓reduceIte, reduceCtorEq, Int.reduceAdd, Int.reduceSub, Int.reduceMul, Int.reduceNeg, Int.reduceToNat, List.reduceReplicate, String.reduceEq]
    (repeat' apply And.intro) <;> (try first | rfl | assumption | omega)
    exact Sub.refl _
  · intro k env heap hi
    obtain ⟨e0, e1, e16, e17, e18, hk, hsub⟩ := (hI _ _ _).1 hi
    by_cases hlt : k < a.length
    · have hlt' : (k : Int) < (a.length : Int) := by omega
      have hget := flat_el dTok_len a k hlt
      have hfl := flat_len dTok_len a
      have hwd : IntKind.i64.wrap ((k : Int) + 1) = ((k + 1 : Nat) : Int) := by rw [IntKind.wrap_i64]; omega
      simp (disch := omega) only [go_sem, Nat.reduceEqDiff, Nat.reduceAdd, Nat.reduceMul, Nat.reduceSub, Nat.reduceLeDiff, ↓reduceIte, reduceCtorEq, Int.reduceAdd, Int.reduceSub, Int.reduceMul, Int.reduceNeg, Int.reduceToNat, List.reduceReplicate, String.reduceEq, e0, e1, e16, e17, e18, hlt', hget, hfl, Int.toNat_natCast]
      intro r6 hr6; dsimp only at hr6
      have hs6 := hsub.new hr6 (some (DObj.cells (dTok a[k]) 27))
      simp (disch := omega) only [go_sem, Nat.reduceEqDiff, Nat.reduceAdd, Nat.reduceMul, Nat.reduceSub, Nat.reduceLeDiff, ↓reduceIte, reduceCtorEq, Int.reduceAdd, Int.reduceSub, Int.reduceMul, Int.reduceNeg, Int.reduceToNat, List.reduceReplicate, String.reduceEq, e0, e1, e16, e17, e18, dTok_len, dTok_t4, dTok_d4, dTok_one, List.append_nil]
      refine dwp_draws (by kernel_rfl) (.take 0 (.take 2 (.go 1 [2] (.go 3 [0] (.take 4 .done))))) (by kernel_rfl) ?_
      simp (disch := omega) only [go_sem, Nat.reduceEqDiff, Nat.reduceAdd, Nat.reduceMul, Nat.reduceSub, Nat.reduceLeDiff, ↓reduceIte, reduceCtorEq, Int.reduceAdd, Int.reduceSub, Int.reduceMul, Int.reduceNeg, Int.reduceToNat, List.reduceReplicate, String.reduceEq, e0, e1, e16, e17, e18, dTok_len, dTok_t4, dTok_d4, dTok_one, List.append_nil]
      refine (may_spec hG _ a[k] (ha _ (List.getElem_mem hlt))).mono ?_
      rintro _ H1 ⟨rfl, rfl⟩
      simp (disch := omega) only [go_sem, Nat.reduceEqDiff, Nat.reduceAdd, Nat.reduceMul, Nat.reduceSub, Nat.reduceLeDiff, ↓reduceIte, reduceCtorEq, Int.reduceAdd, Int.reduceSub, Int.reduceMul, Int.reduceNeg, Int.reduceToNat, List.reduceReplicate, String.reduceEq, e0, e1, e16, e17, e18, dTok_len, dTok_t4, dTok_d4, dTok_one, List.append_nil]
      refine (rmay_spec G _ a[k]).mono ?_
      rintro _ H1 ⟨rfl, rfl⟩
      simp (disch := omega) only [go_sem, Nat.reduceEqDiff, Nat.reduceAdd, Nat.reduceMul, Nat.reduceSub, Nat.reduceLeDiff, ↓reduceIte, reduceCtorEq, Int.reduceAdd, Int.reduceSub, Int.reduceMul, Int.reduceNeg, Int.reduceToNat, List.reduceReplicate, String.reduceEq, e0, e1, e16, e17, e18, dTok_len, dTok_t4, dTok_d4, dTok_one, List.append_nil]
      refine ⟨k + 1, _, GhostS.refl _, (hI _ _ _).2 ?_, by omega⟩
      simp (disch := omega) only [go_sem, Nat.reduceEqDiff, Nat.reduceAdd, Nat.reduceMul, Nat.reduceSub, Nat.reduceLeDiff, ↓reduceIte, reduceCtorEq, Int.reduceAdd, Int.reduceSub, Int.reduceMul, Int.reduceNeg, Int.reduceToNat, List.reduceReplicate, String.reduceEq, e0, e1, e16, e17, e18, hwd]
      (repeat' apply And.intro) <;> (try first | rfl | assumption | omega)
    · have : k = a.length := by omega
      subst this
      simp (disch := omega) only [go_sem, Nat.reduceEqDiff, Nat.reduceAdd, Nat.reduceMul, Nat.reduceSub, Nat.reduceLeDiff, ↓reduceIte, reduceCtorEq, Int.reduceAdd, Int.reduceSub, Int.reduceMul, Int.reduceNeg, Int.reduceToNat, List.reduceReplicate, String.reduceEq, e0, e1, e16, e17, e18]
      refine (same_spec G _ a b (by omega)).mono ?_
      rintro _ H1 ⟨rfl, rfl⟩
      simp (disch := omega) only [go_sem, Nat.reduceEqDiff, Nat.reduceAdd, Nat.reduceMul, Nat.reduceSub, Nat.reduceLeDiff, ↓reduceIte, reduceCtorEq, Int.reduceAdd, Int.reduceSub, Int.reduceMul, Int.reduceNeg, Int.reduceToNat, List.reduceReplicate, String.reduceEq, e0, e1, e16, e17, e18]
      refine (rsame_spec G _ a b (by omega)).mono ?_
      rintro _ H1 ⟨rfl, rfl⟩
      simp (disch := omega) only [go_sem, Nat.reduceEqDiff, Nat.reduceAdd, Nat.reduceMul, Nat.reduceSub, Nat.reduceLeDiff, ↓reduceIte, reduceCtorEq, Int.reduceAdd, Int.reduceSub, Int.reduceMul, Int.reduceNeg, Int.reduceToNat, List.reduceReplicate, String.reduceEq, e0, e1, e16, e17, e18]
      refine (same_spec G _ a a (by omega)).mono ?_
      rintro _ H1 ⟨rfl, rfl⟩
      rw [sameL_refl]
      simp (disch := omega) only [go_sem, Nat.reduceEqDiff, Nat.reduceAdd, Nat.reduceMul, Nat.reduceSub, Nat.reduceLeDiff, ↓reduceIte, reduceCtorEq, Int.reduceAdd, Int.reduceSub, Int.reduceMul, Int.reduceNeg, Int.reduceToNat, List.reduceReplicate, String.reduceEq, e0, e1, e16, e17, e18]
      refine (awake_spec hG _).mono ?_
      rintro _ H1 ⟨rfl, rfl⟩
      simp (disch := omega) only [go_sem, Nat.reduceEqDiff, Nat.reduceAdd, Nat.reduceMul, Nat.reduceSub, Nat.reduceLeDiff, ↓reduceIte, reduceCtorEq, Int.reduceAdd, Int.reduceSub, Int.reduceMul, Int.reduceNeg, Int.reduceToNat, List.reduceReplicate, String.reduceEq]
      exact DFin.sub hsub (DFin.refl ⟨rfl, rfl⟩)
end
end Go.Dl

-- Chapter 2: the reference's word, integer, symbol, One.
namespace Go.Dl
open Go Go.Proofs
set_option maxRecDepth 100000

def intD (w : List UInt8) : Int := match intV w with | some v => (v : Int) | none => -1
theorem intD_long {w : List UInt8} (h : ¬ w.length ≤ 10) : intD w = -1 := by rw [intD, intV, if_neg (fun x => h x.1)]
theorem intD_bad {w : List UInt8} (h : w.all digitB = false) : intD w = -1 := by rw [intD, intV, if_neg (fun x => by rw [h] at x; cases x.2.1)]
theorem intD_big {w : List UInt8} (h : ¬ decV w ≤ 2147483647) : intD w = -1 := by rw [intD, intV, if_neg (fun x => h x.2.2)]
theorem intD_ok {w : List UInt8} (h1 : w.length ≤ 10) (h2 : w.all digitB = true) (h3 : decV w ≤ 2147483647) : intD w = (decV w : Int) := by rw [intD, intV, if_pos ⟨h1, h2, h3⟩]
theorem word_take (s : List UInt8) : s.take (wordL s).length = wordL s := (List.prefix_iff_eq_take.1 (List.takeWhile_prefix _)).symm
def hitB (s w : List UInt8) : Bool := decide (w.length ≤ s.length) && decide (s.take w.length = w)
theorem symsL_at {k : Nat} {w : List UInt8} (h : symsL[k]? = some w) : (k < 7 ∧ ∃ p ∈ syms2, w = [p.1, p.2]) ∨ (7 ≤ k ∧ ∃ a ∈ syms1, w = [a]) := by
  have e : symsL = syms2.map (fun p => [p.1, p.2]) ++ syms1.map (fun a => [a]) := by decide
  rw [e, List.getElem?_append] at h
  split at h
  · rename_i hk
    rw [List.getElem?_map, Option.map_eq_some_iff] at h
    obtain ⟨p, hp, rfl⟩ := h
    exact .inl ⟨hk, p, List.mem_of_getElem? hp, rfl⟩
  · rename_i hk
    rw [List.getElem?_map, Option.map_eq_some_iff] at h
    obtain ⟨a, ha, rfl⟩ := h
    exact .inr ⟨by simpa [syms2] using hk, a, List.mem_of_getElem? ha, rfl⟩
theorem syms2_in {k : Nat} (hk : 7 ≤ k) : ∀ p ∈ syms2, [p.1, p.2] ∈ symsL.take k := fun p hp => by
  have h7 : ∀ p ∈ syms2, [p.1, p.2] ∈ symsL.take 7 := by decide +kernel
  exact (List.take_sublist_take_left (l := symsL) hk).subset (h7 p hp)
theorem hit2 {a b : UInt8} {r : List UInt8} : hitB (a :: b :: r) [a, b] = true := by
  rw [hitB, Bool.and_eq_true, decide_eq_true_eq, decide_eq_true_eq]
  exact ⟨by simp, rfl⟩
theorem sym_hit {s w : List UInt8} {k : Nat} (hk : symsL[k]? = some w) (hp : hitB s w = true) (hno : ∀ u ∈ symsL.take k, hitB s u = false) : symN s = w.length := by
  rw [hitB, Bool.and_eq_true, decide_eq_true_eq, decide_eq_true_eq] at hp
  obtain ⟨h1, h2⟩ := hp
  rcases symsL_at hk with ⟨_, p, hp, rfl⟩ | ⟨h7, a, ha, rfl⟩
  · match s, h1, h2 with
    | a :: b :: r, _, h2 =>
      have e : [a, b] = [p.1, p.2] := h2
      cases e
      show (if (p.1, p.2) ∈ syms2 then 2 else _) = 2
      rw [if_pos hp]
  · match s, h1, h2 with
    | x :: r, _, h2 =>
      have e : [x] = [a] := h2
      cases e
      rw [symN_cons a r (fun b r' e hm => by
        subst e
        have := hno _ (syms2_in h7 _ hm)
        rw [hit2] at this; cases this), if_pos ha]; rfl
theorem sym_miss {s : List UInt8} (hno : ∀ u ∈ symsL, hitB s u = false) : symN s = 0 := by
  match s with
  | [] => rfl
  | x :: r =>
    rw [symN_cons x r (fun b r' e hm => by
      subst e
      have := hno _ (List.mem_of_mem_take (syms2_in (Nat.le_refl 7) _ hm))
      rw [hit2] at this; cases this), if_neg]
    intro hx
    have h1 : ∀ a ∈ syms1, [a] ∈ symsL := by decide +kernel
    have := hno _ (h1 x hx)
    simp [hitB] at this
section
variable {G : Nat → DVal} {H : DHeap}
theorem rwordN_spec (G : Nat → DVal) (H : DHeap) (s : List UInt8) (hs : s.length ≤ 1000000000) : DCalls Tryz.prog G 95 [.str s] H (DRet (dI (wordL s).length) H) := by
  refine dcalls_intro Tryz.func95 Tryz.call95 rfl (by kernel_rfl) ?_
  simp (disch := omega) only [go_sem, Nat.reduceEqDiff, Nat.reduceAdd, Nat.reduceMul, Nat.reduceSub, Nat.reduceLeDiff, ↓reduceIte, reduceCtorEq, Int.reduceAdd, Int.reduceSub, Int.reduceMul, Int.reduceNeg, Int.reduceToNat, List.reduceReplicate, String.reduceEq]
  obtain ⟨I, hI⟩ : ∃ I : Nat → (Nat → DVal) → DHeap → Prop, ∀ k env heap, I k env heap ↔ (env 0 = .str s ∧ env 3 = dI k ∧ k ≤ s.length ∧ (s.take k).all wordB = true ∧ heap = H) := ⟨_, fun _ _ _ => Iff.rfl⟩
  refine DLoop.run I (fun k => s.length - k) 0 ((hI _ _ _).2 ?_) ?_
  · simp (disch := omega) only [go_sem, Nat.reduceEqDiff, Nat.reduceAdd, Nat.reduceMul, Nat.reduceSub, Nat.reduceLeDiff, ↓reduceIte, reduceCtorEq, Int.reduceAdd, Int.reduceSub, Int.reduceMul, Int.reduceNeg, Int.reduceToNat, List.reduceReplicate, String.reduceEq]
    (repeat' apply And.intro) <;> (try first | rfl | assumption | omega)
  · intro k env heap hi
    obtain ⟨e0, e3, hk, hw, rfl⟩ := (hI _ _ _).1 hi
    by_cases hlt : k < s.length
    · have hlt' : (k : Int) < (s.length : Int) := by omega
      have hg : s[k]? = some s[k] := List.getElem?_eq_getElem hlt
      have hwd : IntKind.i64.wrap ((k : Int) + 1) = ((k + 1 : Nat) : Int) := by rw [IntKind.wrap_i64]; omega
      simp (disch := omega) only [go_sem, Nat.reduceEqDiff, Nat.reduceAdd, Nat.reduceMul, Nat.reduceSub, Nat.reduceLeDiff, ↓reduceIte, reduceCtorEq, Int.reduceAdd, Int.reduceSub, Int.reduceMul, Int.reduceNeg, Int.reduceToNat, List.reduceReplicate, String.reduceEq, e0, e3, hlt', hg, Int.toNat_natCast]
      refine (rword_spec G _ s[k]).mono ?_
      rintro _ H1 ⟨rfl, rfl⟩
      cases hb : wordB s[k] with
      | true =>
        simp (disch := omega) only [go_sem, Nat.reduceEqDiff, Nat.reduceAdd, Nat.reduceMul, Nat.reduceSub, Nat.reduceLeDiff, ↓reduceIte, reduceCtorEq, Int.reduceAdd, Int.reduceSub, Int.reduceMul, Int.reduceNeg, Int.reduceToNat, List.reduceReplicate, String.reduceEq, e0, e3]
        refine ⟨k + 1, _, GhostS.refl _, (hI _ _ _).2 ?_, by omega⟩
        simp (disch := omega) only [go_sem, Nat.reduceEqDiff, Nat.reduceAdd, Nat.reduceMul, Nat.reduceSub, Nat.reduceLeDiff, ↓reduceIte, reduceCtorEq, Int.reduceAdd, Int.reduceSub, Int.reduceMul, Int.reduceNeg, Int.reduceToNat, List.reduceReplicate, String.reduceEq, e0, e3, hwd]
        (repeat' apply And.intro) <;> (try first | rfl | assumption | omega)
        rw [List.take_add_one, hg, List.all_append, hw]; simpa using hb
      | false =>
        simp (disch := omega) only [go_sem, Nat.reduceEqDiff, Nat.reduceAdd, Nat.reduceMul, Nat.reduceSub, Nat.reduceLeDiff, ↓reduceIte, reduceCtorEq, Int.reduceAdd, Int.reduceSub, Int.reduceMul, Int.reduceNeg, Int.reduceToNat, List.reduceReplicate, String.reduceEq, e0, e3]
        exact DFin.refl ⟨by rw [word_at hw hg hb, List.length_take, Nat.min_eq_left (by omega)], rfl⟩
    · have : k = s.length := by omega
      subst this
      simp (disch := omega) only [go_sem, Nat.reduceEqDiff, Nat.reduceAdd, Nat.reduceMul, Nat.reduceSub, Nat.reduceLeDiff, ↓reduceIte, reduceCtorEq, Int.reduceAdd, Int.reduceSub, Int.reduceMul, Int.reduceNeg, Int.reduceToNat, List.reduceReplicate, String.reduceEq, e0, e3]
      rw [List.take_length] at hw
      exact DFin.refl ⟨by rw [take_all s hw], rfl⟩
theorem rint_spec (G : Nat → DVal) (H : DHeap) (w : List UInt8) : DCalls Tryz.prog G 96 [.str w] H (DRet (dI (intD w)) H) := by
  refine dcalls_intro Tryz.func96 Tryz.call96 rfl (by kernel_rfl) ?_
  by_cases hl : w.length ≤ 10
  · have hl' : ¬ (10 : Int) < (w.length : Int) := by omega
    simp (disch := omega) only [go_sem, Nat.reduceEqDiff, Nat.reduceAdd, Nat.reduceMul, Nat.reduceSub, Nat.reduceLeDiff, ↓reduceIte, reduceCtorEq, Int.reduceAdd, Int.reduceSub, Int.reduceMul, Int.reduceNeg, Int.reduceToNat, List.reduceReplicate, String.reduceEq, hl']
    obtain ⟨I, hI⟩ : ∃ I : Nat → (Nat → DVal) → DHeap → Prop, ∀ k env heap, I k env heap ↔ (env 0 = .str w ∧ env 3 = dI (decV (w.take k)) ∧ env 4 = dI k ∧ k ≤ w.length ∧ (w.take k).all digitB = true ∧ decV (w.take k) < 10 ^ k ∧ heap = H) := ⟨_, fun _ _ _ => Iff.rfl⟩
    refine DLoop.run I (fun k => w.length - k) 0 ((hI _ _ _).2 ?_) ?_
    · simp (disch := omega) only [go_sem, Nat.reduceEqDiff, Nat.reduceAdd, Nat.reduceMul, Nat.reduceSub, Nat.reduceLeDiff, ↓reduceIte, reduceCtorEq, Int.reduceAdd, Int.reduceSub, Int.reduceMul, Int.reduceNeg, Int.reduceToNat, List.reduceReplicate, String.reduceEq]
      (repeat' apply And.intro) <;> (try first | rfl | assumption | omega)
      decide
    · intro k env heap hi
      obtain ⟨e0, e3, e4, hk, hw, hv, rfl⟩ := (hI _ _ _).1 hi
      have hp10 : 10 ^ k ≤ 10 ^ 10 := Nat.pow_le_pow_right (by omega) (by omega)
      have hv10 : decV (w.take k) < 10000000000 := Nat.lt_of_lt_of_le hv hp10
      by_cases hlt : k < w.length
      · have hlt' : (k : Int) < (w.length : Int) := by omega
        have hg : w[k]? = some w[k] := List.getElem?_eq_getElem hlt
        have hwd : IntKind.i64.wrap ((k : Int) + 1) = ((k + 1 : Nat) : Int) := by rw [IntKind.wrap_i64]; omega
        simp (disch := omega) only [go_sem, Nat.reduceEqDiff, Nat.reduceAdd, Nat.reduceMul, Nat.reduceSub, Nat.reduceLeDiff, ↓reduceIte, reduceCtorEq, Int.reduceAdd, Int.reduceSub, Int.reduceMul, Int.reduceNeg, Int.reduceToNat, List.reduceReplicate, String.reduceEq, e0, e3, e4, hlt', hg, Int.toNat_natCast]
        refine (rdigit_spec G _ w[k]).mono ?_
        rintro _ H1 ⟨rfl, rfl⟩
        cases hb : digitB w[k] with
        | true =>
          have hd := (digit_iff w[k]).1 hb
          have htk : w.take (k + 1) = w.take k ++ [w[k]] := by rw [List.take_add_one, hg]; rfl
          have hds : decV (w.take (k + 1)) = 10 * decV (w.take k) + (w[k].toNat - 48) := by rw [htk, decV_snoc]
          have hall : (w.take (k + 1)).all digitB = true := by rw [htk, List.all_append, hw]; simpa using hb
          have hlt10 : decV (w.take (k + 1)) < 10 ^ (k + 1) := by rw [hds, Nat.pow_succ]; omega
          have w1 : IntKind.i64.wrap (10 * (decV (w.take k) : Int)) = 10 * (decV (w.take k) : Int) := by rw [IntKind.wrap_i64]; omega
          have w2 : IntKind.u8.wrap ((w[k].toNat : Int) - 48) = (w[k].toNat : Int) - 48 := by rw [IntKind.wrap_u8]; omega
          have w3 : IntKind.i64.wrap ((w[k].toNat : Int) - 48) = (w[k].toNat : Int) - 48 := by rw [IntKind.wrap_i64]; omega
          have w4 : IntKind.i64.wrap (10 * (decV (w.take k) : Int) + ((w[k].toNat : Int) - 48)) = (decV (w.take (k + 1)) : Int) := by rw [IntKind.wrap_i64, hds]; omega
          simp (disch := omega) only [go_sem, Nat.reduceEqDiff, Nat.reduceAdd, Nat.reduceMul, Nat.reduceSub, Nat.reduceLeDiff, ↓reduceIte, reduceCtorEq, Int.reduceAdd, Int.reduceSub, Int.reduceMul, Int.reduceNeg, Int.reduceToNat, List.reduceReplicate, String.reduceEq, e0, e3, e4, hlt', hg, Int.toNat_natCast, w1, w2, w3, w4]
          refine ⟨k + 1, _, GhostS.refl _, (hI _ _ _).2 ?_, by omega⟩
          simp (disch := omega) only [go_sem, Nat.reduceEqDiff, Nat.reduceAdd, Nat.reduceMul, Nat.reduceSub, Nat.reduceLeDiff, ↓reduceIte, reduceCtorEq, Int.reduceAdd, Int.reduceSub, Int.reduceMul, Int.reduceNeg, Int.reduceToNat, List.reduceReplicate, String.reduceEq, e0, e3, e4, hwd]
          (repeat' apply And.intro) <;> (try first | rfl | assumption | omega)
        | false =>
          simp (disch := omega) only [go_sem, Nat.reduceEqDiff, Nat.reduceAdd, Nat.reduceMul, Nat.reduceSub, Nat.reduceLeDiff, ↓reduceIte, reduceCtorEq, Int.reduceAdd, Int.reduceSub, Int.reduceMul, Int.reduceNeg, Int.reduceToNat, List.reduceReplicate, String.reduceEq, e0, e3]
          refine DFin.refl ⟨?_, rfl⟩
          rw [intD_bad (List.all_eq_false.2 ⟨w[k], List.getElem_mem hlt, by rw [hb]; simp⟩)]
      · have : k = w.length := by omega
        subst this
        rw [List.take_length] at hw hv e3
        by_cases hb : 2147483647 < decV w
        · have hb' : (2147483647 : Int) < (decV w : Int) := by omega
          simp (disch := omega) only [go_sem, Nat.reduceEqDiff, Nat.reduceAdd, Nat.reduceMul, Nat.reduceSub, Nat.reduceLeDiff, ↓reduceIte, reduceCtorEq, Int.reduceAdd, Int.reduceSub, Int.reduceMul, Int.reduceNeg, Int.reduceToNat, List.reduceReplicate, String.reduceEq, e0, e3, e4, hb']
          exact DFin.refl ⟨by rw [intD_big (by omega)], rfl⟩
        · have hb' : ¬ (2147483647 : Int) < (decV w : Int) := by omega
          simp (disch := omega) only [go_sem, Nat.reduceEqDiff, Nat.reduceAdd, Nat.reduceMul, Nat.reduceSub, Nat.reduceLeDiff, ↓reduceIte, reduceCtorEq, Int.reduceAdd, Int.reduceSub, Int.reduceMul, Int.reduceNeg, Int.reduceToNat, List.reduceReplicate, String.reduceEq, e0, e3, e4, hb']
          exact DFin.refl ⟨by rw [intD_ok hl hw (by omega)], rfl⟩
  · have hl' : (10 : Int) < (w.length : Int) := by omega
    simp (disch := omega) only [go_sem, Nat.reduceEqDiff, Nat.reduceAdd, Nat.reduceMul, Nat.reduceSub, Nat.reduceLeDiff, ↓reduceIte, reduceCtorEq, Int.reduceAdd, Int.reduceSub, Int.reduceMul, Int.reduceNeg, Int.reduceToNat, List.reduceReplicate, String.reduceEq, hl']
    exact DFin.refl ⟨by rw [intD_long hl], rfl⟩
theorem rsym_spec (G : Nat → DVal) (H : DHeap) (s : List UInt8) (hs : s.length ≤ 1000000000) : DCalls Tryz.prog G 97 [.str s] H (DRet (dI (symN s)) H) := by
  refine dcalls_intro Tryz.func97 Tryz.call97 rfl (by kernel_rfl) ?_
  simp (disch := omega) only [go_sem, Nat.reduceEqDiff, Nat.reduceAdd, Nat.reduceMul, Nat.reduceSub, Nat.reduceLeDiff, ↓reduceIte, reduceCtorEq, Int.reduceAdd, Int.reduceSub, Int.reduceMul, Int.reduceNeg, Int.reduceToNat, List.reduceReplicate, String.reduceEq]
  refine (rsyms_spec G _).mono ?_
  rintro _ H1 ⟨rfl, rfl⟩
  simp (disch := omega) only [go_sem, Nat.reduceEqDiff, Nat.reduceAdd, Nat.reduceMul, Nat.reduceSub, Nat.reduceLeDiff, ↓reduceIte, reduceCtorEq, Int.reduceAdd, Int.reduceSub, Int.reduceMul, Int.reduceNeg, Int.reduceToNat, List.reduceReplicate, String.reduceEq, dStrs]
  obtain ⟨l, hl⟩ : ∃ l, l = symsL := ⟨_, rfl⟩
  rw [← hl]
  have hlen : l.length = 22 := by rw [hl]; rfl
  obtain ⟨I, hI⟩ : ∃ I : Nat → (Nat → DVal) → DHeap → Prop, ∀ k env heap, I k env heap ↔ (env 0 = .str s ∧ env 3 = .vslice (l.map .str) l.length ∧ env 4 = dI k ∧ k ≤ l.length ∧ (∀ u ∈ l.take k, hitB s u = false) ∧ heap = H1) := ⟨_, fun _ _ _ => Iff.rfl⟩
  refine DLoop.run I (fun k => l.length - k) 0 ((hI _ _ _).2 ?_) ?_
  · simp (disch := omega) only [go_sem, Nat.reduceEqDiff, Nat.reduceAdd, Nat.reduceMul, Nat.reduceSub, Nat.reduceLeDiff, ↓reduceIte, reduceCtorEq, Int.reduceAdd, Int.reduceSub, Int.reduceMul, Int.reduceNeg, Int.reduceToNat, List.reduceReplicate, String.reduceEq]
    (repeat' apply And.intro) <;> (try first | rfl | assumption | omega)
    intro u hu; simp at hu
  · intro k env heap hi
    obtain ⟨e0, e3, e4, hk, hno, rfl⟩ := (hI _ _ _).1 hi
    by_cases hlt : k < l.length
    · have hlt' : (k : Int) < (l.length : Int) := by omega
      have hg : (l.map DVal.str)[k]? = some (.str l[k]) := by rw [List.getElem?_map, List.getElem?_eq_getElem hlt]; rfl
      have hwd : IntKind.i64.wrap ((k : Int) + 1) = ((k + 1 : Nat) : Int) := by rw [IntKind.wrap_i64]; omega
      have hbd : hitB s l[k] = (decide (l[k].length ≤ s.length) && decide (s.take l[k].length = l[k])) := rfl
      simp (disch := omega) only [go_sem, Nat.reduceEqDiff, Nat.reduceAdd, Nat.reduceMul, Nat.reduceSub, Nat.reduceLeDiff, ↓reduceIte, reduceCtorEq, Int.reduceAdd, Int.reduceSub, Int.reduceMul, Int.reduceNeg, Int.reduceToNat, List.reduceReplicate, String.reduceEq, e0, e3, e4, hlt', hlt, hg, Int.toNat_natCast]
      refine dwp_draws (by kernel_rfl) (.take 0 (.take 1 (.take 2 (.take 3 (.take 4 (.take 5 (.take 6 (.take 7 (.take 8 (.take 9 (.take 10 (.take 11 (.take 12 (.take 13 .done)))))))))))))) (by kernel_rfl) ?_
      by_cases h1 : l[k].length ≤ s.length
      · have h1' : (l[k].length : Int) ≤ (s.length : Int) := by omega
        by_cases h2 : s.take l[k].length = l[k]
        · have hh : hitB s l[k] = true := by rw [hbd, decide_eq_true h1, decide_eq_true h2]; rfl
          simp (disch := omega) only [go_sem, Nat.reduceEqDiff, Nat.reduceAdd, Nat.reduceMul, Nat.reduceSub, Nat.reduceLeDiff, ↓reduceIte, reduceCtorEq, Int.reduceAdd, Int.reduceSub, Int.reduceMul, Int.reduceNeg, Int.reduceToNat, List.reduceReplicate, String.reduceEq, e0, e3, e4, hlt', hlt, hg, h1', h2, Int.toNat_natCast]
          refine DFin.refl ⟨?_, rfl⟩
          rw [sym_hit (k := k) (w := l[k]) (by rw [← hl]; exact List.getElem?_eq_getElem hlt) hh (by rw [← hl]; exact hno)]
        · have hh : hitB s l[k] = false := by rw [hbd, decide_eq_false h2, Bool.and_false]
          simp (disch := omega) only [go_sem, Nat.reduceEqDiff, Nat.reduceAdd, Nat.reduceMul, Nat.reduceSub, Nat.reduceLeDiff, ↓reduceIte, reduceCtorEq, Int.reduceAdd, Int.reduceSub, Int.reduceMul, Int.reduceNeg, Int.reduceToNat, List.reduceReplicate, String.reduceEq, e0, e3, e4, hlt', hlt, hg, h1', h2, Int.toNat_natCast]
          refine ⟨k + 1, _, GhostS.refl _, (hI _ _ _).2 ?_, by omega⟩
          simp (disch := omega) only [go_sem, Nat.reduceEqDiff, Nat.reduceAdd, Nat.reduceMul, Nat.reduceSub, Nat.reduceLeDiff, ↓reduceIte, reduceCtorEq, Int.reduceAdd, Int.reduceSub, Int.reduceMul, Int.reduceNeg, Int.reduceToNat, List.reduceReplicate, String.reduceEq, e0, e3, e4, hwd]
          (repeat' apply And.intro) <;> (try first | rfl | assumption | omega)
          exact take_next (p := fun x => hitB s x = false) hlt hno hh
      · have h1' : ¬ (l[k].length : Int) ≤ (s.length : Int) := by omega
        have hh : hitB s l[k] = false := by rw [hbd, decide_eq_false h1, Bool.false_and]
        simp (disch := omega) only [go_sem, Nat.reduceEqDiff, Nat.reduceAdd, Nat.reduceMul, Nat.reduceSub, Nat.reduceLeDiff, ↓reduceIte, reduceCtorEq, Int.reduceAdd, Int.reduceSub, Int.reduceMul, Int.reduceNeg, Int.reduceToNat, List.reduceReplicate, String.reduceEq, e0, e3, e4, hlt', hlt, hg, h1', Int.toNat_natCast]
        refine ⟨k + 1, _, GhostS.refl _, (hI _ _ _).2 ?_, by omega⟩
        simp (disch := omega) only [go_sem, Nat.reduceEqDiff, Nat.reduceAdd, Nat.reduceMul, Nat.reduceSub, Nat.reduceLeDiff, ↓reduceIte, reduceCtorEq, Int.reduceAdd, Int.reduceSub, Int.reduceMul, Int.reduceNeg, Int.reduceToNat, List.reduceReplicate, String.reduceEq, e0, e3, e4, hwd]
        (repeat' apply And.intro) <;> (try first | rfl | assumption | omega)
        exact take_next (p := fun x => hitB s x = false) hlt hno hh
    · have : k = l.length := by omega
      subst this
      simp (disch := omega) only [go_sem, Nat.reduceEqDiff, Nat.reduceAdd, Nat.reduceMul, Nat.reduceSub, Nat.reduceLeDiff, ↓reduceIte, reduceCtorEq, Int.reduceAdd, Int.reduceSub, Int.reduceMul, Int.reduceNeg, Int.reduceToNat, List.reduceReplicate, String.reduceEq, e0, e3, e4]
      rw [List.take_length] at hno
      refine DFin.refl ⟨?_, rfl⟩
      rw [sym_miss (by rw [← hl]; exact hno)]; rfl
theorem one_spec (G : Nat → DVal) (H : DHeap) (c : UInt8) (r : List UInt8) (hs : (c :: r).length ≤ 1000000000) : DCalls Tryz.prog G 67 [.str (c :: r)] H (DRet (dFirst (firstT (c :: r))) H) := by
  have h0 : (c :: r)[0]? = some c := rfl
  have hwl := word_le (c :: r)
  have hwt : (c :: r).take ((wordL (c :: r)).length - 0) = wordL (c :: r) := word_take (c :: r)
  have hwl' : ((wordL (c :: r)).length : Int) ≤ ((c :: r).length : Int) := by omega
  refine dcalls_intro Tryz.func67 Tryz.call67 rfl (by kernel_rfl) ?_
  simp (disch := omega) only [go_sem, Nat.reduceEqDiff, Nat.reduceAdd, Nat.reduceMul, Nat.reduceSub, Nat.reduceLeDiff, ↓reduceIte, reduceCtorEq, Int.reduceAdd, Int.reduceSub, Int.reduceMul, Int.reduceNeg, Int.reduceToNat, List.reduceReplicate, String.reduceEq]
  intro r2 hr2; dsimp only at hr2
  simp (disch := omega) only [go_sem, Nat.reduceEqDiff, Nat.reduceAdd, Nat.reduceMul, Nat.reduceSub, Nat.reduceLeDiff, ↓reduceIte, reduceCtorEq, Int.reduceAdd, Int.reduceSub, Int.reduceMul, Int.reduceNeg, Int.reduceToNat, List.reduceReplicate, String.reduceEq]
  refine (rwordN_spec G _ (c :: r) hs).mono ?_
  rintro _ H1 ⟨rfl, rfl⟩
  simp (disch := omega) only [go_sem, Nat.reduceEqDiff, Nat.reduceAdd, Nat.reduceMul, Nat.reduceSub, Nat.reduceLeDiff, ↓reduceIte, reduceCtorEq, Int.reduceAdd, Int.reduceSub, Int.reduceMul, Int.reduceNeg, Int.reduceToNat, List.reduceReplicate, String.reduceEq, h0]
  refine (rletter_spec G _ c).mono ?_
  rintro _ H1 ⟨rfl, rfl⟩
  generalize hw : wordL (c :: r) = w at hwl hwt hwl'
  cases hle : letterB c with
  | true =>
    simp (disch := omega) only [go_sem, Nat.reduceEqDiff, Nat.reduceAdd, Nat.reduceMul, Nat.reduceSub, Nat.reduceLeDiff, ↓reduceIte, reduceCtorEq, Int.reduceAdd, Int.reduceSub, Int.reduceMul, Int.reduceNeg, Int.reduceToNat, List.reduceReplicate, String.reduceEq, h0, hwl', hwt]
    refine (rkey_spec G _ w).mono ?_
    rintro _ H1 ⟨rfl, rfl⟩
    cases hk : keyB w with
    | true =>
      simp (disch := omega) only [go_sem, Nat.reduceEqDiff, Nat.reduceAdd, Nat.reduceMul, Nat.reduceSub, Nat.reduceLeDiff, ↓reduceIte, reduceCtorEq, Int.reduceAdd, Int.reduceSub, Int.reduceMul, Int.reduceNeg, Int.reduceToNat, List.reduceReplicate, String.reduceEq, h0, DVal.cells]
      exact DFin.dropA r2 hr2 (DFin.refl ⟨by rw [first_cons, hw, hle, if_pos rfl, hk, if_pos rfl]; rfl, rfl⟩)
    | false =>
      simp (disch := omega) only [go_sem, Nat.reduceEqDiff, Nat.reduceAdd, Nat.reduceMul, Nat.reduceSub, Nat.reduceLeDiff, ↓reduceIte, reduceCtorEq, Int.reduceAdd, Int.reduceSub, Int.reduceMul, Int.reduceNeg, Int.reduceToNat, List.reduceReplicate, String.reduceEq, h0]
      refine (rname_spec G _ w).mono ?_
      rintro _ H1 ⟨rfl, rfl⟩
      cases hn : nameB w with
      | true =>
        simp (disch := omega) only [go_sem, Nat.reduceEqDiff, Nat.reduceAdd, Nat.reduceMul, Nat.reduceSub, Nat.reduceLeDiff, ↓reduceIte, reduceCtorEq, Int.reduceAdd, Int.reduceSub, Int.reduceMul, Int.reduceNeg, Int.reduceToNat, List.reduceReplicate, String.reduceEq, h0, DVal.cells]
        exact DFin.dropA r2 hr2 (DFin.refl ⟨by rw [first_cons, hw, hle, if_pos rfl, hk, if_neg (by simp), hn, if_pos rfl]; rfl, rfl⟩)
      | false =>
        simp (disch := omega) only [go_sem, Nat.reduceEqDiff, Nat.reduceAdd, Nat.reduceMul, Nat.reduceSub, Nat.reduceLeDiff, ↓reduceIte, reduceCtorEq, Int.reduceAdd, Int.reduceSub, Int.reduceMul, Int.reduceNeg, Int.reduceToNat, List.reduceReplicate, String.reduceEq, h0, DVal.cells]
        exact DFin.dropA r2 hr2 (DFin.refl ⟨by rw [first_cons, hw, hle, if_pos rfl, hk, if_neg (by simp), hn, if_neg (by simp)]; rfl, rfl⟩)
  | false =>
    simp (disch := omega) only [go_sem, Nat.reduceEqDiff, Nat.reduceAdd, Nat.reduceMul, Nat.reduceSub, Nat.reduceLeDiff, ↓reduceIte, reduceCtorEq, Int.reduceAdd, Int.reduceSub, Int.reduceMul, Int.reduceNeg, Int.reduceToNat, List.reduceReplicate, String.reduceEq, h0]
    refine (rdigit_spec G _ c).mono ?_
    rintro _ H1 ⟨rfl, rfl⟩
    cases hd : digitB c with
    | true =>
      have hfc : firstT (c :: r) = match intV w with | some v => (⟨3, 0, [], v⟩, w.length) | none => (tok0, 0) := by
        rw [first_cons, hw, hle, if_neg (by simp), hd, if_pos rfl]; cases intV w <;> rfl
      simp (disch := omega) only [go_sem, Nat.reduceEqDiff, Nat.reduceAdd, Nat.reduceMul, Nat.reduceSub, Nat.reduceLeDiff, ↓reduceIte, reduceCtorEq, Int.reduceAdd, Int.reduceSub, Int.reduceMul, Int.reduceNeg, Int.reduceToNat, List.reduceReplicate, String.reduceEq, h0, hwl', hwt]
      refine (rint_spec G _ w).mono ?_
      rintro _ H1 ⟨rfl, rfl⟩
      cases hv : intV w with
      | some v =>
        have hiv : intD w = (v : Int) := by rw [intD, hv]
        have hneg : ¬ (v : Int) < 0 := by omega
        simp (disch := omega) only [go_sem, Nat.reduceEqDiff, Nat.reduceAdd, Nat.reduceMul, Nat.reduceSub, Nat.reduceLeDiff, ↓reduceIte, reduceCtorEq, Int.reduceAdd, Int.reduceSub, Int.reduceMul, Int.reduceNeg, Int.reduceToNat, List.reduceReplicate, String.reduceEq, hiv, hneg, DVal.cells]
        exact DFin.dropA r2 hr2 (DFin.refl ⟨by rw [hfc, hv]; rfl, rfl⟩)
      | none =>
        have hiv : intD w = -1 := by rw [intD, hv]
        simp (disch := omega) only [go_sem, Nat.reduceEqDiff, Nat.reduceAdd, Nat.reduceMul, Nat.reduceSub, Nat.reduceLeDiff, ↓reduceIte, reduceCtorEq, Int.reduceAdd, Int.reduceSub, Int.reduceMul, Int.reduceNeg, Int.reduceToNat, List.reduceReplicate, String.reduceEq, hiv, DVal.cells]
        exact DFin.dropA r2 hr2 (DFin.refl ⟨by rw [hfc, hv]; rfl, rfl⟩)
    | false =>
      have hsl := sym_le (c :: r)
      have hsl' : (symN (c :: r) : Int) ≤ ((c :: r).length : Int) := by omega
      simp (disch := omega) only [go_sem, Nat.reduceEqDiff, Nat.reduceAdd, Nat.reduceMul, Nat.reduceSub, Nat.reduceLeDiff, ↓reduceIte, reduceCtorEq, Int.reduceAdd, Int.reduceSub, Int.reduceMul, Int.reduceNeg, Int.reduceToNat, List.reduceReplicate, String.reduceEq]
      refine (rsym_spec G _ (c :: r) hs).mono ?_
      rintro _ H1 ⟨rfl, rfl⟩
      simp (disch := omega) only [go_sem, Nat.reduceEqDiff, Nat.reduceAdd, Nat.reduceMul, Nat.reduceSub, Nat.reduceLeDiff, ↓reduceIte, reduceCtorEq, Int.reduceAdd, Int.reduceSub, Int.reduceMul, Int.reduceNeg, Int.reduceToNat, List.reduceReplicate, String.reduceEq, h0, DVal.cells, hsl']
      exact DFin.dropA r2 hr2 (DFin.refl ⟨by rw [first_cons, hle, if_neg (by simp), hd, if_neg (by simp)]; simp [dFirst, dTok], rfl⟩)
end
end Go.Dl

-- Chapter 2: the reference's Tokens; LexReads.
namespace Go.Dl
open Go Go.Proofs
set_option maxRecDepth 100000

theorem com_two {c d : UInt8} {r r' : List UInt8} (hd : d ≠ 45) (h : r = d :: r') : isCom (c :: r) = false := by
  subst h
  unfold isCom
  split
  · rename_i e; simp at e; exact absurd e.2.1 hd
  · rfl
theorem com_one {c : UInt8} {r : List UInt8} (h : r = []) : isCom (c :: r) = false := by
  subst h
  unfold isCom
  split
  · rename_i e; simp at e
  · rfl
theorem tokens_len (src : List UInt8) : (tokensL src).1.length ≤ 1000000000 := by
  rw [tokensL]
  split
  · simp
  · split
    · simp
    · rename_i h
      have := allY_small src 1
      rw [List.length_map]; omega
set_option maxHeartbeats 4000000 in
theorem rtokens_spec (G : Nat → DVal) (H : DHeap) (src : List UInt8) (hs : src.length ≤ 1000000000) : DCalls Tryz.prog G 36 [.str src] H (DRet (.tuple [dToks (tokensL src).1, dI (tokensL src).2.1, dI (tokensL src).2.2]) H) := by
  refine dcalls_intro Tryz.func36 Tryz.call36 rfl (by kernel_rfl) ?_
  by_cases hl : 65536 < src.length
  · have hl' : (65536 : Int) < (src.length : Int) := by omega
    simp (disch := omega) only [go_sem, Nat.reduceEqDiff, Nat.reduceAdd, Nat.reduceMul, Nat.reduceSub, Nat.reduceLeDiff, ↓reduceIte, reduceCtorEq, Int.reduceAdd, Int.reduceSub, Int.reduceMul, Int.reduceNeg, Int.reduceToNat, List.reduceReplicate, String.reduceEq, hl', List.append_nil]
    refine DFin.ghost (dToks_nil (H := H) (Sub.refl H) [dI 0, dI 3] rfl) (DFin.refl ⟨?_, rfl⟩)
    rw [tokensL, if_pos hl]
  have hl' : ¬ (65536 : Int) < (src.length : Int) := by omega
  simp (disch := omega) only [go_sem, Nat.reduceEqDiff, Nat.reduceAdd, Nat.reduceMul, Nat.reduceSub, Nat.reduceLeDiff, ↓reduceIte, reduceCtorEq, Int.reduceAdd, Int.reduceSub, Int.reduceMul, Int.reduceNeg, Int.reduceToNat, List.reduceReplicate, String.reduceEq, hl']
  obtain ⟨I, hI⟩ : ∃ I : Nat × Nat × List Tok → (Nat → DVal) → DHeap → Prop, ∀ ix env heap, I ix env heap ↔ (env 0 = .str src ∧ env 6 = dI ix.2.1 ∧ env 7 = dI ix.1 ∧ ix.1 ≤ src.length ∧ ix.2.1 ≤ ix.1 + 1 ∧ ix.2.2.length ≤ 8192 ∧ restR (src.drop ix.1) ix.2.1 ix.2.2 = tokensL src ∧ OwnJ H 27 4 ix.2.2.length (ix.2.2.flatMap dTok) (env 5) heap) := ⟨_, fun _ _ _ => Iff.rfl⟩
  refine DLoop.run I (fun ix => src.length - ix.1) (0, 1, []) ((hI _ _ _).2 ?_) ?_
  · simp (disch := omega) only [go_sem, Nat.reduceEqDiff, Nat.reduceAdd, Nat.reduceMul, Nat.reduceSub, Nat.reduceLeDiff, ↓reduceIte, reduceCtorEq, Int.reduceAdd, Int.reduceSub, Int.reduceMul, Int.reduceNeg, Int.reduceToNat, List.reduceReplicate, String.reduceEq]
    (repeat' apply And.intro) <;> (try first | rfl | assumption | omega)
    · exact (tokens_rest (by omega)).symm
    · exact OwnJ.nil _ _ (Sub.refl _)
  · rintro ⟨k, ln, ts⟩ env hp hi
    obtain ⟨e0, e6, e7, hk, hln, hts, hr, hv⟩ := (hI _ _ _).1 hi
    dsimp only at e6 e7 hk hln hts hr hv
    obtain ⟨v, e5⟩ : ∃ v, env 5 = v := ⟨_, rfl⟩
    rw [e5] at hv
    by_cases hlt : k < src.length
    · have hlt' : (k : Int) < (src.length : Int) := by omega
      have hkl : (k : Int) ≤ (src.length : Int) := by omega
      obtain ⟨c, hc⟩ : ∃ c, c = src[k] := ⟨_, rfl⟩
      have hg : src[k]? = some c := by rw [hc]; exact List.getElem?_eq_getElem hlt
      have hd : src.drop k = c :: src.drop (k + 1) := by rw [hc]; exact List.drop_eq_getElem_cons hlt
      have hdr : (src.drop k).take (src.length - k) = c :: src.drop (k + 1) := by rw [← hd]; exact List.take_of_length_le (by rw [List.length_drop]; exact Nat.le_refl _)
      have hw1 : IntKind.i64.wrap ((k : Int) + 1) = ((k + 1 : Nat) : Int) := by rw [IntKind.wrap_i64]; omega
      have hwl : IntKind.i64.wrap ((ln : Int) + 1) = ((ln + 1 : Nat) : Int) := by rw [IntKind.wrap_i64]; omega
      by_cases c10 : c = 10
      · have c10' : (c.toNat : Int) = 10 := by rw [c10]; rfl
        simp (disch := omega) only [go_sem, Nat.reduceEqDiff, Nat.reduceAdd, Nat.reduceMul, Nat.reduceSub, Nat.reduceLeDiff, ↓reduceIte, reduceCtorEq, Int.reduceAdd, Int.reduceSub, Int.reduceMul, Int.reduceNeg, Int.reduceToNat, List.reduceReplicate, String.reduceEq, e0, e5, e6, e7, hlt', hg, c10', Int.toNat_natCast]
        refine ⟨(k + 1, ln + 1, ts), _, GhostS.refl _, (hI _ _ _).2 ?_, by dsimp only; omega⟩
        simp (disch := omega) only [go_sem, Nat.reduceEqDiff, Nat.reduceAdd, Nat.reduceMul, Nat.reduceSub, Nat.reduceLeDiff, ↓reduceIte, reduceCtorEq, Int.reduceAdd, Int.reduceSub, Int.reduceMul, Int.reduceNeg, Int.reduceToNat, List.reduceReplicate, String.reduceEq, e0, e5, e6, e7, hw1, hwl]
        (repeat' apply And.intro) <;> (try first | rfl | assumption | omega)
        rw [← hr, hd, c10, rest_lf]
      have c10' : ¬ (c.toNat : Int) = 10 := toNat_ne (d := 10) c10
      by_cases c32 : c = 32
      · have c32' : (c.toNat : Int) = 32 := by rw [c32]; rfl
        simp (disch := omega) only [go_sem, Nat.reduceEqDiff, Nat.reduceAdd, Nat.reduceMul, Nat.reduceSub, Nat.reduceLeDiff, ↓reduceIte, reduceCtorEq, Int.reduceAdd, Int.reduceSub, Int.reduceMul, Int.reduceNeg, Int.reduceToNat, List.reduceReplicate, String.reduceEq, e0, e5, e6, e7, hlt', hg, c10', c32', Int.toNat_natCast]
        refine ⟨(k + 1, ln, ts), _, GhostS.refl _, (hI _ _ _).2 ?_, by dsimp only; omega⟩
        simp (disch := omega) only [go_sem, Nat.reduceEqDiff, Nat.reduceAdd, Nat.reduceMul, Nat.reduceSub, Nat.reduceLeDiff, ↓reduceIte, reduceCtorEq, Int.reduceAdd, Int.reduceSub, Int.reduceMul, Int.reduceNeg, Int.reduceToNat, List.reduceReplicate, String.reduceEq, e0, e5, e6, e7, hw1, hwl]
        (repeat' apply And.intro) <;> (try first | rfl | assumption | omega)
        rw [← hr, hd, c32, rest_sp]
      have c32' : ¬ (c.toNat : Int) = 32 := toNat_ne (d := 32) c32
      by_cases hlt1 : k + 1 < src.length
      · have hlt1' : ((k + 1 : Nat) : Int) < (src.length : Int) := by omega
        have hd1 : src.drop (k + 1) = src[k + 1] :: src.drop (k + 2) := List.drop_eq_getElem_cons hlt1
        have hg1 : src[k + 1]? = some src[k + 1] := List.getElem?_eq_getElem hlt1
        by_cases c45 : c = 45
        · have c45' : (c.toNat : Int) = 45 := by rw [c45]; rfl
          by_cases d45 : src[k + 1] = 45
          · have d45' : (src[k + 1].toNat : Int) = 45 := by rw [d45]; rfl
            have hd2 : src.drop k = 45 :: 45 :: src.drop (k + 2) := by rw [hd, hd1, c45, d45]
            obtain ⟨h, t, hls, hbad, hok⟩ := rest_com (src.drop (k + 2)) ln ts
            rw [← hd2] at hls hbad hok
            rw [hr] at hbad hok
            obtain ⟨p1, p2, _⟩ := lines_parts hls
            have hsh : ∃ q, src.drop k = h ++ q ∧ (q = [] ∨ ∃ q', q = 10 :: q') := by
              rcases p2 with ⟨_, e⟩ | ⟨_, e⟩
              · exact ⟨[], by rw [e, List.append_nil], .inl rfl⟩
              · exact ⟨_, e, .inr ⟨_, rfl⟩⟩
            obtain ⟨q, hq, hq2⟩ := hsh
            have hpos : 0 < h.length := by
              match h, hq with
              | [], hq =>
                rw [hd2] at hq
                rcases hq2 with rfl | ⟨q', rfl⟩
                · cases hq
                · have := (List.cons.inj hq).1; exact absurd this (by decide)
              | x :: h, _ => simp
            have hhl : k + h.length + q.length = src.length := by
              have := congrArg List.length hq
              rw [List.length_drop, List.length_append] at this; omega
            have hat : ∀ j (hj : j < h.length), src[k + j]? = some h[j] := fun j hj => by
              rw [← List.getElem?_drop, hq, List.getElem?_append_left hj, List.getElem?_eq_getElem hj]
            have hend : src[k + h.length]? = q[0]? := by
              rw [← List.getElem?_drop, hq, List.getElem?_append_right (Nat.le_refl _), Nat.sub_self]
            simp (disch := omega) only [go_sem, Nat.reduceEqDiff, Nat.reduceAdd, Nat.reduceMul, Nat.reduceSub, Nat.reduceLeDiff, ↓reduceIte, reduceCtorEq, Int.reduceAdd, Int.reduceSub, Int.reduceMul, Int.reduceNeg, Int.reduceToNat, List.reduceReplicate, String.reduceEq, e0, e5, e6, e7, hlt', hg, c10', c32', hw1, hlt1', hg1, c45', d45', Int.toNat_natCast]
            obtain ⟨J, hJ⟩ : ∃ J : Nat → (Nat → DVal) → DHeap → Prop, ∀ j env heap, J j env heap ↔ (env 0 = .str src ∧ env 5 = v ∧ env 6 = dI ln ∧ env 7 = dI ((k + j : Nat) : Int) ∧ j ≤ h.length ∧ plainB (h.take j) = true ∧ heap = hp) := ⟨_, fun _ _ _ => Iff.rfl⟩
            refine DLoop.run J (fun j => h.length - j) 0 ((hJ _ _ _).2 ?_) ?_
            · simp (disch := omega) only [go_sem, Nat.reduceEqDiff, Nat.reduceAdd, Nat.reduceMul, Nat.reduceSub, Nat.reduceLeDiff, ↓reduceIte, reduceCtorEq, Int.reduceAdd, Int.reduceSub, Int.reduceMul, Int.reduceNeg, Int.reduceToNat, List.reduceReplicate, String.reduceEq, e0, e5, e6, e7, Nat.add_zero]
              (repeat' apply And.intro) <;> (try first | rfl | assumption | omega)
            · intro j env' hp' hi'
              obtain ⟨f0, f5, f6, f7, hj, hpl, rfl⟩ := (hJ _ _ _).1 hi'
              by_cases hjl : j < h.length
              · have hjl' : ((k + j : Nat) : Int) < (src.length : Int) := by omega
                have hgj := hat j hjl
                have hn10 : ¬ (h[j].toNat : Int) = 10 := toNat_ne (d := 10) fun e => p1 (by rw [← e]; exact List.getElem_mem hjl)
                have hwj : IntKind.i64.wrap (((k + j : Nat) : Int) + 1) = ((k + (j + 1) : Nat) : Int) := by rw [IntKind.wrap_i64]; omega
                have hb : ¬ (32 ≤ h[j].toNat ∧ h[j].toNat ≤ 126) → plainB h = false := fun x => by
                  rw [plainB, List.all_eq_false]
                  refine ⟨h[j], List.getElem_mem hjl, ?_⟩
                  simp only [Bool.and_eq_true, decide_eq_true_eq]; exact x
                by_cases h1 : h[j].toNat < 32
                · have h1' : (h[j].toNat : Int) < 32 := by omega
                  simp (disch := omega) only [go_sem, Nat.reduceEqDiff, Nat.reduceAdd, Nat.reduceMul, Nat.reduceSub, Nat.reduceLeDiff, ↓reduceIte, reduceCtorEq, Int.reduceAdd, Int.reduceSub, Int.reduceMul, Int.reduceNeg, Int.reduceToNat, List.reduceReplicate, String.reduceEq, f0, f5, f6, f7, hjl', hgj, hn10, h1', Int.toNat_natCast]
                  refine DFin.ghost (dToks_nil (H := H) hv.sub [dI ln, dI 20] rfl) (DFin.refl ⟨?_, rfl⟩)
                  rw [hbad (hb (by omega))]
                · have h1' : ¬ (h[j].toNat : Int) < 32 := by omega
                  by_cases h2 : 126 < h[j].toNat
                  · have h2' : (126 : Int) < (h[j].toNat : Int) := by omega
                    simp (disch := omega) only [go_sem, Nat.reduceEqDiff, Nat.reduceAdd, Nat.reduceMul, Nat.reduceSub, Nat.reduceLeDiff, ↓reduceIte, reduceCtorEq, Int.reduceAdd, Int.reduceSub, Int.reduceMul, Int.reduceNeg, Int.reduceToNat, List.reduceReplicate, String.reduceEq, f0, f5, f6, f7, hjl', hgj, hn10, h1', h2', Int.toNat_natCast]
                    refine DFin.ghost (dToks_nil (H := H) hv.sub [dI ln, dI 20] rfl) (DFin.refl ⟨?_, rfl⟩)
                    rw [hbad (hb (by omega))]
                  · have h2' : ¬ (126 : Int) < (h[j].toNat : Int) := by omega
                    simp (disch := omega) only [go_sem, Nat.reduceEqDiff, Nat.reduceAdd, Nat.reduceMul, Nat.reduceSub, Nat.reduceLeDiff, ↓reduceIte, reduceCtorEq, Int.reduceAdd, Int.reduceSub, Int.reduceMul, Int.reduceNeg, Int.reduceToNat, List.reduceReplicate, String.reduceEq, f0, f5, f6, f7, hjl', hgj, hn10, h1', h2', Int.toNat_natCast]
                    refine ⟨j + 1, _, GhostS.refl _, (hJ _ _ _).2 ?_, by omega⟩
                    simp (disch := omega) only [go_sem, Nat.reduceEqDiff, Nat.reduceAdd, Nat.reduceMul, Nat.reduceSub, Nat.reduceLeDiff, ↓reduceIte, reduceCtorEq, Int.reduceAdd, Int.reduceSub, Int.reduceMul, Int.reduceNeg, Int.reduceToNat, List.reduceReplicate, String.reduceEq, f0, f5, f6, f7, hwj]
                    (repeat' apply And.intro) <;> (try first | rfl | assumption | omega)
                    rw [List.take_add_one, List.getElem?_eq_getElem hjl, plain_app, hpl]
                    simp [plainB]; omega
              · have : j = h.length := by omega
                subst this
                rw [List.take_length] at hpl
                have hgo := hok hpl
                rw [List.drop_drop] at hgo
                rcases hq2 with rfl | ⟨q', rfl⟩
                · have hjl' : ¬ ((k + h.length : Nat) : Int) < (src.length : Int) := by simp at hhl; omega
                  simp (disch := omega) only [go_sem, Nat.reduceEqDiff, Nat.reduceAdd, Nat.reduceMul, Nat.reduceSub, Nat.reduceLeDiff, ↓reduceIte, reduceCtorEq, Int.reduceAdd, Int.reduceSub, Int.reduceMul, Int.reduceNeg, Int.reduceToNat, List.reduceReplicate, String.reduceEq, f0, f5, f6, f7, hjl']
                  refine ⟨(k + h.length, ln, ts), _, GhostS.refl _, (hI _ _ _).2 ?_, by dsimp only; omega⟩
                  simp (disch := omega) only [go_sem, Nat.reduceEqDiff, Nat.reduceAdd, Nat.reduceMul, Nat.reduceSub, Nat.reduceLeDiff, ↓reduceIte, reduceCtorEq, Int.reduceAdd, Int.reduceSub, Int.reduceMul, Int.reduceNeg, Int.reduceToNat, List.reduceReplicate, String.reduceEq, f0, f5, f6, f7]
                  (repeat' apply And.intro) <;> (try first | rfl | assumption | omega)
                  exact hgo.symm
                · have hjl' : ((k + h.length : Nat) : Int) < (src.length : Int) := by simp at hhl; omega
                  simp (disch := omega) only [go_sem, Nat.reduceEqDiff, Nat.reduceAdd, Nat.reduceMul, Nat.reduceSub, Nat.reduceLeDiff, ↓reduceIte, reduceCtorEq, Int.reduceAdd, Int.reduceSub, Int.reduceMul, Int.reduceNeg, Int.reduceToNat, List.reduceReplicate, String.reduceEq, f0, f5, f6, f7, hjl', hend, List.getElem?_cons_zero, Int.toNat_natCast]
                  refine ⟨(k + h.length, ln, ts), _, GhostS.refl _, (hI _ _ _).2 ?_, by dsimp only; omega⟩
                  simp (disch := omega) only [go_sem, Nat.reduceEqDiff, Nat.reduceAdd, Nat.reduceMul, Nat.reduceSub, Nat.reduceLeDiff, ↓reduceIte, reduceCtorEq, Int.reduceAdd, Int.reduceSub, Int.reduceMul, Int.reduceNeg, Int.reduceToNat, List.reduceReplicate, String.reduceEq, f0, f5, f6, f7]
                  (repeat' apply And.intro) <;> (try first | rfl | assumption | omega)
                  exact hgo.symm
          · have d45' : ¬ (src[k + 1].toNat : Int) = 45 := toNat_ne (d := 45) d45
            · have hcom : isCom (c :: src.drop (k + 1)) = false := com_two d45 hd1
              simp (disch := omega) only [go_sem, Nat.reduceEqDiff, Nat.reduceAdd, Nat.reduceMul, Nat.reduceSub, Nat.reduceLeDiff, ↓reduceIte, reduceCtorEq, Int.reduceAdd, Int.reduceSub, Int.reduceMul, Int.reduceNeg, Int.reduceToNat, List.reduceReplicate, String.reduceEq, e0, e5, e6, e7, hlt', hg, c10', c32', hlt1', hg1, c45', d45', Int.toNat_natCast, hdr, hkl, hw1]
              refine (one_spec G _ c (src.drop (k + 1)) (by rw [← hd, List.length_drop]; omega)).mono ?_
              rintro _ H1 ⟨rfl, rfl⟩
              have htk := rest_tok ln ts c10 c32 hcom
              have hfl := first_le (c :: src.drop (k + 1))
              rw [← hd, List.length_drop] at hfl
              rw [← hd, hr] at htk
              rw [← hd]
              generalize hf : firstT (src.drop k) = tn at htk hfl
              obtain ⟨T, n⟩ := tn
              dsimp only at htk hfl
              simp (disch := omega) only [go_sem, Nat.reduceEqDiff, Nat.reduceAdd, Nat.reduceMul, Nat.reduceSub, Nat.reduceLeDiff, ↓reduceIte, reduceCtorEq, Int.reduceAdd, Int.reduceSub, Int.reduceMul, Int.reduceNeg, Int.reduceToNat, List.reduceReplicate, String.reduceEq, dFirst, DVal.cells, e0, e5, e6, e7]
              intro r8 hr8; dsimp only at hr8
              have hvf := hv.frame hr8 (.cells (dTok { T with line := (ln : Int) }) 27)
              by_cases hn : n = 0
              · have hn' : (n : Int) = 0 := by omega
                rw [if_pos hn] at htk
                simp (disch := omega) only [go_sem, Nat.reduceEqDiff, Nat.reduceAdd, Nat.reduceMul, Nat.reduceSub, Nat.reduceLeDiff, ↓reduceIte, reduceCtorEq, Int.reduceAdd, Int.reduceSub, Int.reduceMul, Int.reduceNeg, Int.reduceToNat, List.reduceReplicate, String.reduceEq, e0, e5, e6, e7, hn', dTok_len, dTok_t4, dTok_d4, dTok_one, List.append_nil]
                refine DFin.ghost (dToks_nil (H := H) (hv.new hr8 _).sub [dI ln, dI 20] rfl) (DFin.refl ⟨?_, rfl⟩)
                rw [htk]
              · have hn' : ¬ (n : Int) = 0 := by omega
                rw [if_neg hn] at htk
                by_cases h8 : ts.length = 8192
                · have h8' : (ts.length : Int) = 8192 := by omega
                  rw [if_pos h8] at htk
                  simp (disch := omega) only [go_sem, Nat.reduceEqDiff, Nat.reduceAdd, Nat.reduceMul, Nat.reduceSub, Nat.reduceLeDiff, ↓reduceIte, reduceCtorEq, Int.reduceAdd, Int.reduceSub, Int.reduceMul, Int.reduceNeg, Int.reduceToNat, List.reduceReplicate, String.reduceEq, e0, e5, e6, e7, hn', hv.dLen, h8', dTok_len, dTok_t4, dTok_d4, dTok_one, List.append_nil]
                  refine DFin.ghost (dToks_nil (H := H) (hv.new hr8 _).sub [dI ln, dI 3] rfl) (DFin.refl ⟨?_, rfl⟩)
                  rw [htk]
                · have h8' : ¬ (ts.length : Int) = 8192 := by omega
                  rw [if_neg h8] at htk
                  have hsp : splice (dTok T) 1 [dI (ln : Int)] = dTok { T with line := (ln : Int) } := rfl
                  have hrep : repl 1 [DVal.int IntKind.u8 0, DVal.int IntKind.i64 0, DVal.str [], DVal.int IntKind.i64 0] = [DVal.int IntKind.u8 0, DVal.int IntKind.i64 0, DVal.str [], DVal.int IntKind.i64 0] := rfl
                  have hwn : IntKind.i64.wrap ((k : Int) + (n : Int)) = ((k + n : Nat) : Int) := by rw [IntKind.wrap_i64]; omega
                  simp (disch := omega) only [go_sem, Nat.reduceEqDiff, Nat.reduceAdd, Nat.reduceMul, Nat.reduceSub, Nat.reduceLeDiff, ↓reduceIte, reduceCtorEq, Int.reduceAdd, Int.reduceSub, Int.reduceMul, Int.reduceNeg, Int.reduceToNat, List.reduceReplicate, String.reduceEq, e0, e5, e6, e7, hn', hv.dLen, h8', dTok_len, dTok_t4, dTok_d4, dTok_one, List.append_nil, hsp]
                  rw [hrep]
                  simp (disch := omega) only [go_sem, Nat.reduceEqDiff, Nat.reduceAdd, Nat.reduceMul, Nat.reduceSub, Nat.reduceLeDiff, ↓reduceIte, reduceCtorEq, Int.reduceAdd, Int.reduceSub, Int.reduceMul, Int.reduceNeg, Int.reduceToNat, List.reduceReplicate, String.reduceEq, List.length_cons, List.length_nil, List.drop_succ_cons, List.drop_zero, List.append_nil, e5]
                  intro ns hns; dsimp only at hns
                  simp (disch := omega) only [go_sem, Nat.reduceEqDiff, Nat.reduceAdd, Nat.reduceMul, Nat.reduceSub, Nat.reduceLeDiff, ↓reduceIte, reduceCtorEq, Int.reduceAdd, Int.reduceSub, Int.reduceMul, Int.reduceNeg, Int.reduceToNat, List.reduceReplicate, String.reduceEq, e0, e5, e6, e7, dTok_len, dTok_t4, dTok_d4, dTok_one, List.append_nil]
                  refine OwnJ.append (m := 1) (hvf.new hns _) rfl (by omega) fun v2 H3 hv3 => ?_
                  simp (disch := omega) only [go_sem, Nat.reduceEqDiff, Nat.reduceAdd, Nat.reduceMul, Nat.reduceSub, Nat.reduceLeDiff, ↓reduceIte, reduceCtorEq, Int.reduceAdd, Int.reduceSub, Int.reduceMul, Int.reduceNeg, Int.reduceToNat, List.reduceReplicate, String.reduceEq, e0, e5, e6, e7]
                  refine ⟨(k + n, ln, ts ++ [{ T with line := (ln : Int) }]), _, GhostS.refl _, (hI _ _ _).2 ?_, by dsimp only; omega⟩
                  simp (disch := omega) only [go_sem, Nat.reduceEqDiff, Nat.reduceAdd, Nat.reduceMul, Nat.reduceSub, Nat.reduceLeDiff, ↓reduceIte, reduceCtorEq, Int.reduceAdd, Int.reduceSub, Int.reduceMul, Int.reduceNeg, Int.reduceToNat, List.reduceReplicate, String.reduceEq, e0, e5, e6, e7, hwn]
                  (repeat' apply And.intro) <;> (try first | rfl | assumption | omega)
                  · rw [List.length_append]; simp; omega
                  · rw [← List.drop_drop, ← htk]
                  · have := hv3.less ((Sub.refl H).up (hv.sub.lo hr8) _)
                    rw [List.length_append, List.flatMap_append]
                    simpa using this
        · have c45' : ¬ (c.toNat : Int) = 45 := toNat_ne (d := 45) c45
          · have hcom : isCom (c :: src.drop (k + 1)) = false := com_ne _ c45
            simp (disch := omega) only [go_sem, Nat.reduceEqDiff, Nat.reduceAdd, Nat.reduceMul, Nat.reduceSub, Nat.reduceLeDiff, ↓reduceIte, reduceCtorEq, Int.reduceAdd, Int.reduceSub, Int.reduceMul, Int.reduceNeg, Int.reduceToNat, List.reduceReplicate, String.reduceEq, e0, e5, e6, e7, hlt', hg, c10', c32', hlt1', hg1, c45', Int.toNat_natCast, hdr, hkl, hw1]
            refine (one_spec G _ c (src.drop (k + 1)) (by rw [← hd, List.length_drop]; omega)).mono ?_
            rintro _ H1 ⟨rfl, rfl⟩
            have htk := rest_tok ln ts c10 c32 hcom
            have hfl := first_le (c :: src.drop (k + 1))
            rw [← hd, List.length_drop] at hfl
            rw [← hd, hr] at htk
            rw [← hd]
            generalize hf : firstT (src.drop k) = tn at htk hfl
            obtain ⟨T, n⟩ := tn
            dsimp only at htk hfl
            simp (disch := omega) only [go_sem, Nat.reduceEqDiff, Nat.reduceAdd, Nat.reduceMul, Nat.reduceSub, Nat.reduceLeDiff, ↓reduceIte, reduceCtorEq, Int.reduceAdd, Int.reduceSub, Int.reduceMul, Int.reduceNeg, Int.reduceToNat, List.reduceReplicate, String.reduceEq, dFirst, DVal.cells, e0, e5, e6, e7]
            intro r8 hr8; dsimp only at hr8
            have hvf := hv.frame hr8 (.cells (dTok { T with line := (ln : Int) }) 27)
            by_cases hn : n = 0
            · have hn' : (n : Int) = 0 := by omega
              rw [if_pos hn] at htk
              simp (disch := omega) only [go_sem, Nat.reduceEqDiff, Nat.reduceAdd, Nat.reduceMul, Nat.reduceSub, Nat.reduceLeDiff, ↓reduceIte, reduceCtorEq, Int.reduceAdd, Int.reduceSub, Int.reduceMul, Int.reduceNeg, Int.reduceToNat, List.reduceReplicate, String.reduceEq, e0, e5, e6, e7, hn', dTok_len, dTok_t4, dTok_d4, dTok_one, List.append_nil]
              refine DFin.ghost (dToks_nil (H := H) (hv.new hr8 _).sub [dI ln, dI 20] rfl) (DFin.refl ⟨?_, rfl⟩)
              rw [htk]
            · have hn' : ¬ (n : Int) = 0 := by omega
              rw [if_neg hn] at htk
              by_cases h8 : ts.length = 8192
              · have h8' : (ts.length : Int) = 8192 := by omega
                rw [if_pos h8] at htk
                simp (disch := omega) only [go_sem, Nat.reduceEqDiff, Nat.reduceAdd, Nat.reduceMul, Nat.reduceSub, Nat.reduceLeDiff, ↓reduceIte, reduceCtorEq, Int.reduceAdd, Int.reduceSub, Int.reduceMul, Int.reduceNeg, Int.reduceToNat, List.reduceReplicate, String.reduceEq, e0, e5, e6, e7, hn', hv.dLen, h8', dTok_len, dTok_t4, dTok_d4, dTok_one, List.append_nil]
                refine DFin.ghost (dToks_nil (H := H) (hv.new hr8 _).sub [dI ln, dI 3] rfl) (DFin.refl ⟨?_, rfl⟩)
                rw [htk]
              · have h8' : ¬ (ts.length : Int) = 8192 := by omega
                rw [if_neg h8] at htk
                have hsp : splice (dTok T) 1 [dI (ln : Int)] = dTok { T with line := (ln : Int) } := rfl
                have hrep : repl 1 [DVal.int IntKind.u8 0, DVal.int IntKind.i64 0, DVal.str [], DVal.int IntKind.i64 0] = [DVal.int IntKind.u8 0, DVal.int IntKind.i64 0, DVal.str [], DVal.int IntKind.i64 0] := rfl
                have hwn : IntKind.i64.wrap ((k : Int) + (n : Int)) = ((k + n : Nat) : Int) := by rw [IntKind.wrap_i64]; omega
                simp (disch := omega) only [go_sem, Nat.reduceEqDiff, Nat.reduceAdd, Nat.reduceMul, Nat.reduceSub, Nat.reduceLeDiff, ↓reduceIte, reduceCtorEq, Int.reduceAdd, Int.reduceSub, Int.reduceMul, Int.reduceNeg, Int.reduceToNat, List.reduceReplicate, String.reduceEq, e0, e5, e6, e7, hn', hv.dLen, h8', dTok_len, dTok_t4, dTok_d4, dTok_one, List.append_nil, hsp]
                rw [hrep]
                simp (disch := omega) only [go_sem, Nat.reduceEqDiff, Nat.reduceAdd, Nat.reduceMul, Nat.reduceSub, Nat.reduceLeDiff, ↓reduceIte, reduceCtorEq, Int.reduceAdd, Int.reduceSub, Int.reduceMul, Int.reduceNeg, Int.reduceToNat, List.reduceReplicate, String.reduceEq, List.length_cons, List.length_nil, List.drop_succ_cons, List.drop_zero, List.append_nil, e5]
                intro ns hns; dsimp only at hns
                simp (disch := omega) only [go_sem, Nat.reduceEqDiff, Nat.reduceAdd, Nat.reduceMul, Nat.reduceSub, Nat.reduceLeDiff, ↓reduceIte, reduceCtorEq, Int.reduceAdd, Int.reduceSub, Int.reduceMul, Int.reduceNeg, Int.reduceToNat, List.reduceReplicate, String.reduceEq, e0, e5, e6, e7, dTok_len, dTok_t4, dTok_d4, dTok_one, List.append_nil]
                refine OwnJ.append (m := 1) (hvf.new hns _) rfl (by omega) fun v2 H3 hv3 => ?_
                simp (disch := omega) only [go_sem, Nat.reduceEqDiff, Nat.reduceAdd, Nat.reduceMul, Nat.reduceSub, Nat.reduceLeDiff, ↓reduceIte, reduceCtorEq, Int.reduceAdd, Int.reduceSub, Int.reduceMul, Int.reduceNeg, Int.reduceToNat, List.reduceReplicate, String.reduceEq, e0, e5, e6, e7]
                refine ⟨(k + n, ln, ts ++ [{ T with line := (ln : Int) }]), _, GhostS.refl _, (hI _ _ _).2 ?_, by dsimp only; omega⟩
                simp (disch := omega) only [go_sem, Nat.reduceEqDiff, Nat.reduceAdd, Nat.reduceMul, Nat.reduceSub, Nat.reduceLeDiff, ↓reduceIte, reduceCtorEq, Int.reduceAdd, Int.reduceSub, Int.reduceMul, Int.reduceNeg, Int.reduceToNat, List.reduceReplicate, String.reduceEq, e0, e5, e6, e7, hwn]
                (repeat' apply And.intro) <;> (try first | rfl | assumption | omega)
                · rw [List.length_append]; simp; omega
                · rw [← List.drop_drop, ← htk]
                · have := hv3.less ((Sub.refl H).up (hv.sub.lo hr8) _)
                  rw [List.length_append, List.flatMap_append]
                  simpa using this
      · have hlt1' : ¬ ((k + 1 : Nat) : Int) < (src.length : Int) := by omega
        have hd1 : src.drop (k + 1) = [] := List.drop_eq_nil_of_le (by omega)
        · have hcom : isCom (c :: src.drop (k + 1)) = false := com_one hd1
          simp (disch := omega) only [go_sem, Nat.reduceEqDiff, Nat.reduceAdd, Nat.reduceMul, Nat.reduceSub, Nat.reduceLeDiff, ↓reduceIte, reduceCtorEq, Int.reduceAdd, Int.reduceSub, Int.reduceMul, Int.reduceNeg, Int.reduceToNat, List.reduceReplicate, String.reduceEq, e0, e5, e6, e7, hlt', hg, c10', c32', hlt1', Int.toNat_natCast, hdr, hkl, hw1]
          refine (one_spec G _ c (src.drop (k + 1)) (by rw [← hd, List.length_drop]; omega)).mono ?_
          rintro _ H1 ⟨rfl, rfl⟩
          have htk := rest_tok ln ts c10 c32 hcom
          have hfl := first_le (c :: src.drop (k + 1))
          rw [← hd, List.length_drop] at hfl
          rw [← hd, hr] at htk
          rw [← hd]
          generalize hf : firstT (src.drop k) = tn at htk hfl
          obtain ⟨T, n⟩ := tn
          dsimp only at htk hfl
          simp (disch := omega) only [go_sem, Nat.reduceEqDiff, Nat.reduceAdd, Nat.reduceMul, Nat.reduceSub, Nat.reduceLeDiff, ↓reduceIte, reduceCtorEq, Int.reduceAdd, Int.reduceSub, Int.reduceMul, Int.reduceNeg, Int.reduceToNat, List.reduceReplicate, String.reduceEq, dFirst, DVal.cells, e0, e5, e6, e7]
          intro r8 hr8; dsimp only at hr8
          have hvf := hv.frame hr8 (.cells (dTok { T with line := (ln : Int) }) 27)
          by_cases hn : n = 0
          · have hn' : (n : Int) = 0 := by omega
            rw [if_pos hn] at htk
            simp (disch := omega) only [go_sem, Nat.reduceEqDiff, Nat.reduceAdd, Nat.reduceMul, Nat.reduceSub, Nat.reduceLeDiff, ↓reduceIte, reduceCtorEq, Int.reduceAdd, Int.reduceSub, Int.reduceMul, Int.reduceNeg, Int.reduceToNat, List.reduceReplicate, String.reduceEq, e0, e5, e6, e7, hn', dTok_len, dTok_t4, dTok_d4, dTok_one, List.append_nil]
            refine DFin.ghost (dToks_nil (H := H) (hv.new hr8 _).sub [dI ln, dI 20] rfl) (DFin.refl ⟨?_, rfl⟩)
            rw [htk]
          · have hn' : ¬ (n : Int) = 0 := by omega
            rw [if_neg hn] at htk
            by_cases h8 : ts.length = 8192
            · have h8' : (ts.length : Int) = 8192 := by omega
              rw [if_pos h8] at htk
              simp (disch := omega) only [go_sem, Nat.reduceEqDiff, Nat.reduceAdd, Nat.reduceMul, Nat.reduceSub, Nat.reduceLeDiff, ↓reduceIte, reduceCtorEq, Int.reduceAdd, Int.reduceSub, Int.reduceMul, Int.reduceNeg, Int.reduceToNat, List.reduceReplicate, String.reduceEq, e0, e5, e6, e7, hn', hv.dLen, h8', dTok_len, dTok_t4, dTok_d4, dTok_one, List.append_nil]
              refine DFin.ghost (dToks_nil (H := H) (hv.new hr8 _).sub [dI ln, dI 3] rfl) (DFin.refl ⟨?_, rfl⟩)
              rw [htk]
            · have h8' : ¬ (ts.length : Int) = 8192 := by omega
              rw [if_neg h8] at htk
              have hsp : splice (dTok T) 1 [dI (ln : Int)] = dTok { T with line := (ln : Int) } := rfl
              have hrep : repl 1 [DVal.int IntKind.u8 0, DVal.int IntKind.i64 0, DVal.str [], DVal.int IntKind.i64 0] = [DVal.int IntKind.u8 0, DVal.int IntKind.i64 0, DVal.str [], DVal.int IntKind.i64 0] := rfl
              have hwn : IntKind.i64.wrap ((k : Int) + (n : Int)) = ((k + n : Nat) : Int) := by rw [IntKind.wrap_i64]; omega
              simp (disch := omega) only [go_sem, Nat.reduceEqDiff, Nat.reduceAdd, Nat.reduceMul, Nat.reduceSub, Nat.reduceLeDiff, ↓reduceIte, reduceCtorEq, Int.reduceAdd, Int.reduceSub, Int.reduceMul, Int.reduceNeg, Int.reduceToNat, List.reduceReplicate, String.reduceEq, e0, e5, e6, e7, hn', hv.dLen, h8', dTok_len, dTok_t4, dTok_d4, dTok_one, List.append_nil, hsp]
              rw [hrep]
              simp (disch := omega) only [go_sem, Nat.reduceEqDiff, Nat.reduceAdd, Nat.reduceMul, Nat.reduceSub, Nat.reduceLeDiff, ↓reduceIte, reduceCtorEq, Int.reduceAdd, Int.reduceSub, Int.reduceMul, Int.reduceNeg, Int.reduceToNat, List.reduceReplicate, String.reduceEq, List.length_cons, List.length_nil, List.drop_succ_cons, List.drop_zero, List.append_nil, e5]
              intro ns hns; dsimp only at hns
              simp (disch := omega) only [go_sem, Nat.reduceEqDiff, Nat.reduceAdd, Nat.reduceMul, Nat.reduceSub, Nat.reduceLeDiff, ↓reduceIte, reduceCtorEq, Int.reduceAdd, Int.reduceSub, Int.reduceMul, Int.reduceNeg, Int.reduceToNat, List.reduceReplicate, String.reduceEq, e0, e5, e6, e7, dTok_len, dTok_t4, dTok_d4, dTok_one, List.append_nil]
              refine OwnJ.append (m := 1) (hvf.new hns _) rfl (by omega) fun v2 H3 hv3 => ?_
              simp (disch := omega) only [go_sem, Nat.reduceEqDiff, Nat.reduceAdd, Nat.reduceMul, Nat.reduceSub, Nat.reduceLeDiff, ↓reduceIte, reduceCtorEq, Int.reduceAdd, Int.reduceSub, Int.reduceMul, Int.reduceNeg, Int.reduceToNat, List.reduceReplicate, String.reduceEq, e0, e5, e6, e7]
              refine ⟨(k + n, ln, ts ++ [{ T with line := (ln : Int) }]), _, GhostS.refl _, (hI _ _ _).2 ?_, by dsimp only; omega⟩
              simp (disch := omega) only [go_sem, Nat.reduceEqDiff, Nat.reduceAdd, Nat.reduceMul, Nat.reduceSub, Nat.reduceLeDiff, ↓reduceIte, reduceCtorEq, Int.reduceAdd, Int.reduceSub, Int.reduceMul, Int.reduceNeg, Int.reduceToNat, List.reduceReplicate, String.reduceEq, e0, e5, e6, e7, hwn]
              (repeat' apply And.intro) <;> (try first | rfl | assumption | omega)
              · rw [List.length_append]; simp; omega
              · rw [← List.drop_drop, ← htk]
              · have := hv3.less ((Sub.refl H).up (hv.sub.lo hr8) _)
                rw [List.length_append, List.flatMap_append]
                simpa using this
    · have : k = src.length := by omega
      subst this
      simp (disch := omega) only [go_sem, Nat.reduceEqDiff, Nat.reduceAdd, Nat.reduceMul, Nat.reduceSub, Nat.reduceLeDiff, ↓reduceIte, reduceCtorEq, Int.reduceAdd, Int.reduceSub, Int.reduceMul, Int.reduceNeg, Int.reduceToNat, List.reduceReplicate, String.reduceEq, e0, e5, e6, e7]
      refine DFin.ghost (GhostE.tuple1' (pre := []) hv.ghost rfl rfl) (DFin.refl ⟨?_, rfl⟩)
      rw [List.drop_length, rest_nil] at hr
      rw [← hr]; rfl
def eqT (l m : List Tok) : Bool := decide (l = m)
theorem guard_tok2 : Tryz.prog.eqGuardType Tryz.prog.depth 27 = false := guard_tok
theorem drop_eq {l m : List Tok} {k : Nat} (h1 : k < l.length) (h2 : k < m.length) : decide (l.drop k = m.drop k) = (decide (l[k] = m[k]) && decide (l.drop (k + 1) = m.drop (k + 1))) := by
  rw [List.drop_eq_getElem_cons h1, List.drop_eq_getElem_cons h2]
  simp only [List.cons.injEq, Bool.decide_and]
theorem eqL_spec (G : Nat → DVal) (H : DHeap) (l m : List Tok) (hl : l.length ≤ 1000000000) : DCalls Tryz.prog G 37 [dToks l, dToks m] H (DRet (.bool (decide (l = m))) H) := by
  refine dcalls_intro Tryz.func37 Tryz.call37 rfl (by kernel_rfl) ?_
  by_cases hlen : l.length = m.length
  · have hlen' : (l.length : Int) = (m.length : Int) := by omega
    simp (disch := omega) only [go_sem, Nat.reduceEqDiff, Nat.reduceAdd, Nat.reduceMul, Nat.reduceSub, Nat.reduceLeDiff, ↓reduceIte, reduceCtorEq, Int.reduceAdd, Int.reduceSub, Int.reduceMul, Int.reduceNeg, Int.reduceToNat, List.reduceReplicate, String.reduceEq, dToks, hlen']
    obtain ⟨I, hI⟩ : ∃ I : Nat → (Nat → DVal) → DHeap → Prop, ∀ k env heap, I k env heap ↔ (env 0 = .vslice (l.flatMap dTok) l.length ∧ env 1 = .vslice (m.flatMap dTok) m.length ∧ env 12 = dI m.length ∧ env 13 = dI k ∧ k ≤ l.length ∧ decide (l = m) = decide (l.drop k = m.drop k) ∧ heap = H) := ⟨_, fun _ _ _ => Iff.rfl⟩
    refine DLoop.run I (fun k => l.length - k) 0 ((hI _ _ _).2 ?_) ?_
    · simp (disch := omega) only [go_sem, Nat.reduceEqDiff, Nat.reduceAdd, Nat.reduceMul, Nat.reduceSub, Nat.reduceLeDiff, ↓reduceIte, reduceCtorEq, Int.reduceAdd, Int.reduceSub, Int.reduceMul, Int.reduceNeg, Int.reduceToNat, List.reduceReplicate, String.reduceEq]
      (repeat' apply And.intro) <;> (try first | rfl | assumption | omega)
    · intro k env heap hi
      obtain ⟨e0, e1, e12, e13, hk, hsm, rfl⟩ := (hI _ _ _).1 hi
      have hfl := flat_len dTok_len l
      have hfm := flat_len dTok_len m
      by_cases hlt : k < l.length
      · have hlt' : (k : Int) < (m.length : Int) := by omega
        have hlt2 : (k : Int) < (l.length : Int) := by omega
        have hkm : k < m.length := by omega
        have hget := flat_el dTok_len l k hlt
        have hgetm := flat_el dTok_len m k hkm
        have hwd : IntKind.i64.wrap ((k : Int) + 1) = ((k + 1 : Nat) : Int) := by rw [IntKind.wrap_i64]; omega
        rw [drop_eq hlt hkm] at hsm
        simp (disch := omega) only [go_sem, Nat.reduceEqDiff, Nat.reduceAdd, Nat.reduceMul, Nat.reduceSub, Nat.reduceLeDiff, ↓reduceIte, reduceCtorEq, Int.reduceAdd, Int.reduceSub, Int.reduceMul, Int.reduceNeg, Int.reduceToNat, List.reduceReplicate, String.reduceEq, e0, e1, e12, e13, hlt', hlt2, hget, hgetm, hfl, hfm, Int.toNat_natCast]
        refine dwp_draws (by kernel_rfl) (.take 0 (.take 1 (.take 2 (.take 3 (.take 4 (.take 5 (.take 6 (.take 7 (.take 8 .done))))))))) (by kernel_rfl) ?_
        by_cases hb : l[k] = m[k]
        · rw [decide_eq_true hb, Bool.true_and] at hsm
          have he : dEqT Tryz.prog 6 27 (dTok l[k]) (dTok m[k]) = some true := by rw [eq_tok, decide_eq_true hb]
          simp (disch := omega) only [go_sem, Nat.reduceEqDiff, Nat.reduceAdd, Nat.reduceMul, Nat.reduceSub, Nat.reduceLeDiff, ↓reduceIte, reduceCtorEq, Int.reduceAdd, Int.reduceSub, Int.reduceMul, Int.reduceNeg, Int.reduceToNat, List.reduceReplicate, String.reduceEq, e0, e1, e12, e13, hlt', hlt2, hget, hgetm, hfl, hfm, Int.toNat_natCast, agg_ne agg_tok guard_tok he]
          refine ⟨k + 1, _, GhostS.refl _, (hI _ _ _).2 ?_, by omega⟩
          simp (disch := omega) only [go_sem, Nat.reduceEqDiff, Nat.reduceAdd, Nat.reduceMul, Nat.reduceSub, Nat.reduceLeDiff, ↓reduceIte, reduceCtorEq, Int.reduceAdd, Int.reduceSub, Int.reduceMul, Int.reduceNeg, Int.reduceToNat, List.reduceReplicate, String.reduceEq, e0, e1, e12, e13, hwd]
          (repeat' apply And.intro) <;> (try first | rfl | assumption | omega)
        · rw [decide_eq_false hb, Bool.false_and] at hsm
          have he : dEqT Tryz.prog 6 27 (dTok l[k]) (dTok m[k]) = some false := by rw [eq_tok, decide_eq_false hb]
          simp (disch := omega) only [go_sem, Nat.reduceEqDiff, Nat.reduceAdd, Nat.reduceMul, Nat.reduceSub, Nat.reduceLeDiff, ↓reduceIte, reduceCtorEq, Int.reduceAdd, Int.reduceSub, Int.reduceMul, Int.reduceNeg, Int.reduceToNat, List.reduceReplicate, String.reduceEq, e0, e1, e12, e13, hlt', hlt2, hget, hgetm, hfl, hfm, Int.toNat_natCast, agg_ne agg_tok guard_tok he]
          exact DFin.refl ⟨by rw [hsm], rfl⟩
      · have : k = l.length := by omega
        subst this
        have hlt' : ¬ (l.length : Int) < (m.length : Int) := by omega
        simp (disch := omega) only [go_sem, Nat.reduceEqDiff, Nat.reduceAdd, Nat.reduceMul, Nat.reduceSub, Nat.reduceLeDiff, ↓reduceIte, reduceCtorEq, Int.reduceAdd, Int.reduceSub, Int.reduceMul, Int.reduceNeg, Int.reduceToNat, List.reduceReplicate, String.reduceEq, e0, e1, e12, e13, hlt']
        refine DFin.refl ⟨?_, rfl⟩
        rw [hsm, List.drop_length, hlen, List.drop_length]; rfl
  · have hlen' : ¬ (l.length : Int) = (m.length : Int) := by omega
    simp (disch := omega) only [go_sem, Nat.reduceEqDiff, Nat.reduceAdd, Nat.reduceMul, Nat.reduceSub, Nat.reduceLeDiff, ↓reduceIte, reduceCtorEq, Int.reduceAdd, Int.reduceSub, Int.reduceMul, Int.reduceNeg, Int.reduceToNat, List.reduceReplicate, String.reduceEq, dToks, hlen']
    refine DFin.refl ⟨?_, rfl⟩
    rw [decide_eq_false (fun e => hlen (congrArg List.length e))]
theorem lexReads_spec {G : Nat → DVal} (hG : GX G) (H : DHeap) (src : List UInt8) : DCalls Tryz.prog G 8 [.str src] H (DRet (.bool true) H) := by
  refine dcalls_intro Tryz.func8 Tryz.call8 rfl (by kernel_rfl) ?_
  by_cases hs : 70000 < src.length
  · have hs' : (70000 : Int) < (src.length : Int) := by omega
    simp (disch := omega) only [go_sem, Nat.reduceEqDiff, Nat.reduceAdd, Nat.reduceMul, Nat.reduceSub, Nat.reduceLeDiff, ↓reduceIte, reduceCtorEq, Int.reduceAdd, Int.reduceSub, Int.reduceMul, Int.reduceNeg, Int.reduceToNat, List.reduceReplicate, String.reduceEq, hs']
    refine (awake_spec hG _).mono ?_
    rintro _ H1 ⟨rfl, rfl⟩
    simp (disch := omega) only [go_sem, Nat.reduceEqDiff, Nat.reduceAdd, Nat.reduceMul, Nat.reduceSub, Nat.reduceLeDiff, ↓reduceIte, reduceCtorEq, Int.reduceAdd, Int.reduceSub, Int.reduceMul, Int.reduceNeg, Int.reduceToNat, List.reduceReplicate, String.reduceEq]
    exact DFin.refl ⟨rfl, rfl⟩
  have hs' : ¬ (70000 : Int) < (src.length : Int) := by omega
  simp (disch := omega) only [go_sem, Nat.reduceEqDiff, Nat.reduceAdd, Nat.reduceMul, Nat.reduceSub, Nat.reduceLeDiff, ↓reduceIte, reduceCtorEq, Int.reduceAdd, Int.reduceSub, Int.reduceMul, Int.reduceNeg, Int.reduceToNat, List.reduceReplicate, String.reduceEq, hs']
  refine (lexTokens_spec hG _ src (by omega)).mono ?_
  rintro _ H1 ⟨rfl, rfl⟩
  simp (disch := omega) only [go_sem, Nat.reduceEqDiff, Nat.reduceAdd, Nat.reduceMul, Nat.reduceSub, Nat.reduceLeDiff, ↓reduceIte, reduceCtorEq, Int.reduceAdd, Int.reduceSub, Int.reduceMul, Int.reduceNeg, Int.reduceToNat, List.reduceReplicate, String.reduceEq]
  refine (rtokens_spec G _ src (by omega)).mono ?_
  rintro _ H1 ⟨rfl, rfl⟩
  simp (disch := omega) only [go_sem, Nat.reduceEqDiff, Nat.reduceAdd, Nat.reduceMul, Nat.reduceSub, Nat.reduceLeDiff, ↓reduceIte, reduceCtorEq, Int.reduceAdd, Int.reduceSub, Int.reduceMul, Int.reduceNeg, Int.reduceToNat, List.reduceReplicate, String.reduceEq]
  have hl : (tokensL src).1.length ≤ 1000000000 := tokens_len src
  refine (eqL_spec G _ _ _ hl).mono ?_
  rintro _ H1 ⟨rfl, rfl⟩
  rw [decide_eq_true rfl]
  simp (disch := omega) only [go_sem, Nat.reduceEqDiff, Nat.reduceAdd, Nat.reduceMul, Nat.reduceSub, Nat.reduceLeDiff, ↓reduceIte, reduceCtorEq, Int.reduceAdd, Int.reduceSub, Int.reduceMul, Int.reduceNeg, Int.reduceToNat, List.reduceReplicate, String.reduceEq]
  refine (awake_spec hG _).mono ?_
  rintro _ H1 ⟨rfl, rfl⟩
  simp (disch := omega) only [go_sem, Nat.reduceEqDiff, Nat.reduceAdd, Nat.reduceMul, Nat.reduceSub, Nat.reduceLeDiff, ↓reduceIte, reduceCtorEq, Int.reduceAdd, Int.reduceSub, Int.reduceMul, Int.reduceNeg, Int.reduceToNat, List.reduceReplicate, String.reduceEq]
  exact DFin.refl ⟨rfl, rfl⟩
end Go.Dl

-- Chapter 2: the reference's text of tokens.
namespace Go.Dl
open Go Go.Proofs
set_option maxRecDepth 100000

def isR (t : Tok) (s : List UInt8) : Bool := decide (t.kind = 4) && decide (t.text = s)
def closeB (a b : Tok) : Bool := if isR b [44] || isR b [59] || isR b [41] || isR b [39] || isR a [40] || isR a [39] then true else isR a [46] && !isR b [46] && !isR b [46, 46] || isR b [46] && !isR a [46] && !isR a [46, 46]
theorem isS_one (t : Tok) (c : UInt8) : isS t [c] = isR t [c] := by
  rw [isS, isR]
  congr 1
  split
  · rename_i d h
    rw [h, decide_eq_decide.2]
    simp
  · rename_i h
    exact (decide_eq_false (fun e => h c e)).symm
theorem isS_cons (t : Tok) (c d : UInt8) (l : List UInt8) : isS t (c :: d :: l) = (isR t [c] || isS t (d :: l)) := by
  rw [isS, isS, isR]
  cases decide (t.kind = 4) with
  | false => rfl
  | true =>
    simp only [Bool.true_and]
    split
    · rename_i x h
      rw [h, ← Bool.decide_or, decide_eq_decide.2]
      simp
    · rename_i h
      rw [decide_eq_false (fun e => h c e)]; rfl
theorem apart_close (a b : Tok) : apartT a b = !closeB a b := by
  rw [apartT, closeB, isS_cons, isS_cons, isS_cons, isS_one, isS_cons, isS_one, isS_one, isS_one, dotsT, dotsT, isS_one, isS_one]
  rw [show (decide (b.kind = 4) && decide (b.text = [46, 46])) = isR b [46, 46] from rfl, show (decide (a.kind = 4) && decide (a.text = [46, 46])) = isR a [46, 46] from rfl]
  cases isR b [44] <;> cases isR b [59] <;> cases isR b [41] <;> cases isR b [39] <;> cases isR a [40] <;> cases isR a [39] <;> try rfl
  cases isR a [46] <;> cases isR b [46] <;> cases isR b [46, 46] <;> cases isR a [46, 46] <;> rfl
section
variable {G : Nat → DVal} {H : DHeap}
theorem ris_spec (G : Nat → DVal) (H : DHeap) (t : Tok) (s : List UInt8) : DCalls Tryz.prog G 106 [.agg (dTok t), .str s] H (DRet (.bool (isR t s)) H) := by
  refine dcalls_intro Tryz.func106 Tryz.call106 rfl (by kernel_rfl) ?_
  simp (disch := omega) only [go_sem, Nat.reduceEqDiff, Nat.reduceAdd, Nat.reduceMul, Nat.reduceSub, Nat.reduceLeDiff, ↓reduceIte, reduceCtorEq, Int.reduceAdd, Int.reduceSub, Int.reduceMul, Int.reduceNeg, Int.reduceToNat, List.reduceReplicate, String.reduceEq, DVal.cells]
  intro r hr; dsimp only at hr
  by_cases k4 : t.kind = 4
  · simp (disch := omega) only [go_sem, Nat.reduceEqDiff, Nat.reduceAdd, Nat.reduceMul, Nat.reduceSub, Nat.reduceLeDiff, ↓reduceIte, reduceCtorEq, Int.reduceAdd, Int.reduceSub, Int.reduceMul, Int.reduceNeg, Int.reduceToNat, List.reduceReplicate, String.reduceEq, dTok_len, dTok_0, dTok_2, k4]
    refine DFin.dropA r hr (DFin.refl ⟨?_, rfl⟩)
    rw [isR, decide_eq_true k4, Bool.true_and]
  · simp (disch := omega) only [go_sem, Nat.reduceEqDiff, Nat.reduceAdd, Nat.reduceMul, Nat.reduceSub, Nat.reduceLeDiff, ↓reduceIte, reduceCtorEq, Int.reduceAdd, Int.reduceSub, Int.reduceMul, Int.reduceNeg, Int.reduceToNat, List.reduceReplicate, String.reduceEq, dTok_len, dTok_0, dTok_2, k4]
    refine DFin.dropA r hr (DFin.refl ⟨?_, rfl⟩)
    rw [isR, decide_eq_false k4]; rfl
theorem rclose_spec (G : Nat → DVal) (H : DHeap) (a b : Tok) : DCalls Tryz.prog G 80 [.agg (dTok a), .agg (dTok b)] H (DRet (.bool (closeB a b)) H) := by
  refine dcalls_intro Tryz.func80 Tryz.call80 rfl (by kernel_rfl) ?_
  simp (disch := omega) only [go_sem, Nat.reduceEqDiff, Nat.reduceAdd, Nat.reduceMul, Nat.reduceSub, Nat.reduceLeDiff, ↓reduceIte, reduceCtorEq, Int.reduceAdd, Int.reduceSub, Int.reduceMul, Int.reduceNeg, Int.reduceToNat, List.reduceReplicate, String.reduceEq, DVal.cells]
  intro r2 hr2; dsimp only at hr2
  simp (disch := omega) only [go_sem, Nat.reduceEqDiff, Nat.reduceAdd, Nat.reduceMul, Nat.reduceSub, Nat.reduceLeDiff, ↓reduceIte, reduceCtorEq, Int.reduceAdd, Int.reduceSub, Int.reduceMul, Int.reduceNeg, Int.reduceToNat, List.reduceReplicate, String.reduceEq, DVal.cells]
  intro r3 hr3; dsimp only at hr3
  obtain ⟨m2, m1, hr3'⟩ := upd_eq_none.1 hr3
  simp (disch := omega) only [go_sem, Nat.reduceEqDiff, Nat.reduceAdd, Nat.reduceMul, Nat.reduceSub, Nat.reduceLeDiff, ↓reduceIte, reduceCtorEq, Int.reduceAdd, Int.reduceSub, Int.reduceMul, Int.reduceNeg, Int.reduceToNat, List.reduceReplicate, String.reduceEq, dTok_len, dTok_t4, m1, m2]
  refine (ris_spec G _ b [44]).mono ?_
  rintro _ H1 ⟨rfl, rfl⟩
  cases h1 : isR b [44]
  case true =>
    simp (disch := omega) only [go_sem, Nat.reduceEqDiff, Nat.reduceAdd, Nat.reduceMul, Nat.reduceSub, Nat.reduceLeDiff, ↓reduceIte, reduceCtorEq, Int.reduceAdd, Int.reduceSub, Int.reduceMul, Int.reduceNeg, Int.reduceToNat, List.reduceReplicate, String.reduceEq, dTok_len, dTok_t4, m1, m2]
    exact DFin.sub (show Sub H _ from (by repeat (first | exact Sub.refl _ | assumption | refine Sub.up ?_ (by assumption) _))) (DFin.refl ⟨by rw [closeB, h1]; rfl, rfl⟩)
  simp (disch := omega) only [go_sem, Nat.reduceEqDiff, Nat.reduceAdd, Nat.reduceMul, Nat.reduceSub, Nat.reduceLeDiff, ↓reduceIte, reduceCtorEq, Int.reduceAdd, Int.reduceSub, Int.reduceMul, Int.reduceNeg, Int.reduceToNat, List.reduceReplicate, String.reduceEq, dTok_len, dTok_t4, m1, m2]
  refine (ris_spec G _ b [59]).mono ?_
  rintro _ H1 ⟨rfl, rfl⟩
  cases h2 : isR b [59]
  case true =>
    simp (disch := omega) only [go_sem, Nat.reduceEqDiff, Nat.reduceAdd, Nat.reduceMul, Nat.reduceSub, Nat.reduceLeDiff, ↓reduceIte, reduceCtorEq, Int.reduceAdd, Int.reduceSub, Int.reduceMul, Int.reduceNeg, Int.reduceToNat, List.reduceReplicate, String.reduceEq, dTok_len, dTok_t4, m1, m2]
    exact DFin.sub (show Sub H _ from (by repeat (first | exact Sub.refl _ | assumption | refine Sub.up ?_ (by assumption) _))) (DFin.refl ⟨by rw [closeB, h1, h2]; rfl, rfl⟩)
  simp (disch := omega) only [go_sem, Nat.reduceEqDiff, Nat.reduceAdd, Nat.reduceMul, Nat.reduceSub, Nat.reduceLeDiff, ↓reduceIte, reduceCtorEq, Int.reduceAdd, Int.reduceSub, Int.reduceMul, Int.reduceNeg, Int.reduceToNat, List.reduceReplicate, String.reduceEq, dTok_len, dTok_t4, m1, m2]
  refine (ris_spec G _ b [41]).mono ?_
  rintro _ H1 ⟨rfl, rfl⟩
  cases h3 : isR b [41]
  case true =>
    simp (disch := omega) only [go_sem, Nat.reduceEqDiff, Nat.reduceAdd, Nat.reduceMul, Nat.reduceSub, Nat.reduceLeDiff, ↓reduceIte, reduceCtorEq, Int.reduceAdd, Int.reduceSub, Int.reduceMul, Int.reduceNeg, Int.reduceToNat, List.reduceReplicate, String.reduceEq, dTok_len, dTok_t4, m1, m2]
    exact DFin.sub (show Sub H _ from (by repeat (first | exact Sub.refl _ | assumption | refine Sub.up ?_ (by assumption) _))) (DFin.refl ⟨by rw [closeB, h1, h2, h3]; rfl, rfl⟩)
  simp (disch := omega) only [go_sem, Nat.reduceEqDiff, Nat.reduceAdd, Nat.reduceMul, Nat.reduceSub, Nat.reduceLeDiff, ↓reduceIte, reduceCtorEq, Int.reduceAdd, Int.reduceSub, Int.reduceMul, Int.reduceNeg, Int.reduceToNat, List.reduceReplicate, String.reduceEq, dTok_len, dTok_t4, m1, m2]
  refine (ris_spec G _ b [39]).mono ?_
  rintro _ H1 ⟨rfl, rfl⟩
  cases h4 : isR b [39]
  case true =>
    simp (disch := omega) only [go_sem, Nat.reduceEqDiff, Nat.reduceAdd, Nat.reduceMul, Nat.reduceSub, Nat.reduceLeDiff, ↓reduceIte, reduceCtorEq, Int.reduceAdd, Int.reduceSub, Int.reduceMul, Int.reduceNeg, Int.reduceToNat, List.reduceReplicate, String.reduceEq, dTok_len, dTok_t4, m1, m2]
    exact DFin.sub (show Sub H _ from (by repeat (first | exact Sub.refl _ | assumption | refine Sub.up ?_ (by assumption) _))) (DFin.refl ⟨by rw [closeB, h1, h2, h3, h4]; rfl, rfl⟩)
  simp (disch := omega) only [go_sem, Nat.reduceEqDiff, Nat.reduceAdd, Nat.reduceMul, Nat.reduceSub, Nat.reduceLeDiff, ↓reduceIte, reduceCtorEq, Int.reduceAdd, Int.reduceSub, Int.reduceMul, Int.reduceNeg, Int.reduceToNat, List.reduceReplicate, String.reduceEq, dTok_len, dTok_t4, m1, m2]
  refine (ris_spec G _ a [40]).mono ?_
  rintro _ H1 ⟨rfl, rfl⟩
  cases h5 : isR a [40]
  case true =>
    simp (disch := omega) only [go_sem, Nat.reduceEqDiff, Nat.reduceAdd, Nat.reduceMul, Nat.reduceSub, Nat.reduceLeDiff, ↓reduceIte, reduceCtorEq, Int.reduceAdd, Int.reduceSub, Int.reduceMul, Int.reduceNeg, Int.reduceToNat, List.reduceReplicate, String.reduceEq, dTok_len, dTok_t4, m1, m2]
    exact DFin.sub (show Sub H _ from (by repeat (first | exact Sub.refl _ | assumption | refine Sub.up ?_ (by assumption) _))) (DFin.refl ⟨by rw [closeB, h1, h2, h3, h4, h5]; rfl, rfl⟩)
  simp (disch := omega) only [go_sem, Nat.reduceEqDiff, Nat.reduceAdd, Nat.reduceMul, Nat.reduceSub, Nat.reduceLeDiff, ↓reduceIte, reduceCtorEq, Int.reduceAdd, Int.reduceSub, Int.reduceMul, Int.reduceNeg, Int.reduceToNat, List.reduceReplicate, String.reduceEq, dTok_len, dTok_t4, m1, m2]
  refine (ris_spec G _ a [39]).mono ?_
  rintro _ H1 ⟨rfl, rfl⟩
  cases h6 : isR a [39]
  case true =>
    simp (disch := omega) only [go_sem, Nat.reduceEqDiff, Nat.reduceAdd, Nat.reduceMul, Nat.reduceSub, Nat.reduceLeDiff, ↓reduceIte, reduceCtorEq, Int.reduceAdd, Int.reduceSub, Int.reduceMul, Int.reduceNeg, Int.reduceToNat, List.reduceReplicate, String.reduceEq, dTok_len, dTok_t4, m1, m2]
    exact DFin.sub (show Sub H _ from (by repeat (first | exact Sub.refl _ | assumption | refine Sub.up ?_ (by assumption) _))) (DFin.refl ⟨by rw [closeB, h1, h2, h3, h4, h5, h6]; rfl, rfl⟩)
  simp (disch := omega) only [go_sem, Nat.reduceEqDiff, Nat.reduceAdd, Nat.reduceMul, Nat.reduceSub, Nat.reduceLeDiff, ↓reduceIte, reduceCtorEq, Int.reduceAdd, Int.reduceSub, Int.reduceMul, Int.reduceNeg, Int.reduceToNat, List.reduceReplicate, String.reduceEq, dTok_len, dTok_t4, m1, m2]
  refine (ris_spec G _ a [46]).mono ?_
  rintro _ H1 ⟨rfl, rfl⟩
  cases h7 : isR a [46]
  case true =>
    simp (disch := omega) only [go_sem, Nat.reduceEqDiff, Nat.reduceAdd, Nat.reduceMul, Nat.reduceSub, Nat.reduceLeDiff, ↓reduceIte, reduceCtorEq, Int.reduceAdd, Int.reduceSub, Int.reduceMul, Int.reduceNeg, Int.reduceToNat, List.reduceReplicate, String.reduceEq, dTok_len, dTok_t4, m1, m2]
    refine (ris_spec G _ b [46]).mono ?_
    rintro _ H1 ⟨rfl, rfl⟩
    cases h8 : isR b [46]
    case true =>
      simp (disch := omega) only [go_sem, Nat.reduceEqDiff, Nat.reduceAdd, Nat.reduceMul, Nat.reduceSub, Nat.reduceLeDiff, ↓reduceIte, reduceCtorEq, Int.reduceAdd, Int.reduceSub, Int.reduceMul, Int.reduceNeg, Int.reduceToNat, List.reduceReplicate, String.reduceEq, dTok_len, dTok_t4, m1, m2]
      refine (ris_spec G _ b [46]).mono ?_
      rintro _ H1 ⟨rfl, rfl⟩
      cases h9 : isR b [46]
      case false => rw [h8] at h9; cases h9
      simp (disch := omega) only [go_sem, Nat.reduceEqDiff, Nat.reduceAdd, Nat.reduceMul, Nat.reduceSub, Nat.reduceLeDiff, ↓reduceIte, reduceCtorEq, Int.reduceAdd, Int.reduceSub, Int.reduceMul, Int.reduceNeg, Int.reduceToNat, List.reduceReplicate, String.reduceEq, dTok_len, dTok_t4, m1, m2]
      refine (ris_spec G _ a [46]).mono ?_
      rintro _ H1 ⟨rfl, rfl⟩
      cases h10 : isR a [46]
      case false => rw [h7] at h10; cases h10
      simp (disch := omega) only [go_sem, Nat.reduceEqDiff, Nat.reduceAdd, Nat.reduceMul, Nat.reduceSub, Nat.reduceLeDiff, ↓reduceIte, reduceCtorEq, Int.reduceAdd, Int.reduceSub, Int.reduceMul, Int.reduceNeg, Int.reduceToNat, List.reduceReplicate, String.reduceEq, dTok_len, dTok_t4, m1, m2]
      exact DFin.sub (show Sub H _ from (by repeat (first | exact Sub.refl _ | assumption | refine Sub.up ?_ (by assumption) _))) (DFin.refl ⟨by rw [closeB, h1, h2, h3, h4, h5, h6, h7, h8]; rfl, rfl⟩)
    simp (disch := omega) only [go_sem, Nat.reduceEqDiff, Nat.reduceAdd, Nat.reduceMul, Nat.reduceSub, Nat.reduceLeDiff, ↓reduceIte, reduceCtorEq, Int.reduceAdd, Int.reduceSub, Int.reduceMul, Int.reduceNeg, Int.reduceToNat, List.reduceReplicate, String.reduceEq, dTok_len, dTok_t4, m1, m2]
    refine (ris_spec G _ b [46, 46]).mono ?_
    rintro _ H1 ⟨rfl, rfl⟩
    cases h9 : isR b [46, 46]
    case false =>
      simp (disch := omega) only [go_sem, Nat.reduceEqDiff, Nat.reduceAdd, Nat.reduceMul, Nat.reduceSub, Nat.reduceLeDiff, ↓reduceIte, reduceCtorEq, Int.reduceAdd, Int.reduceSub, Int.reduceMul, Int.reduceNeg, Int.reduceToNat, List.reduceReplicate, String.reduceEq, dTok_len, dTok_t4, m1, m2]
      exact DFin.sub (show Sub H _ from (by repeat (first | exact Sub.refl _ | assumption | refine Sub.up ?_ (by assumption) _))) (DFin.refl ⟨by rw [closeB, h1, h2, h3, h4, h5, h6, h7, h8, h9]; rfl, rfl⟩)
    simp (disch := omega) only [go_sem, Nat.reduceEqDiff, Nat.reduceAdd, Nat.reduceMul, Nat.reduceSub, Nat.reduceLeDiff, ↓reduceIte, reduceCtorEq, Int.reduceAdd, Int.reduceSub, Int.reduceMul, Int.reduceNeg, Int.reduceToNat, List.reduceReplicate, String.reduceEq, dTok_len, dTok_t4, m1, m2]
    refine (ris_spec G _ b [46]).mono ?_
    rintro _ H1 ⟨rfl, rfl⟩
    cases h10 : isR b [46]
    case true => rw [h8] at h10; cases h10
    simp (disch := omega) only [go_sem, Nat.reduceEqDiff, Nat.reduceAdd, Nat.reduceMul, Nat.reduceSub, Nat.reduceLeDiff, ↓reduceIte, reduceCtorEq, Int.reduceAdd, Int.reduceSub, Int.reduceMul, Int.reduceNeg, Int.reduceToNat, List.reduceReplicate, String.reduceEq, dTok_len, dTok_t4, m1, m2]
    exact DFin.sub (show Sub H _ from (by repeat (first | exact Sub.refl _ | assumption | refine Sub.up ?_ (by assumption) _))) (DFin.refl ⟨by rw [closeB, h1, h2, h3, h4, h5, h6, h7, h8, h9]; rfl, rfl⟩)
  simp (disch := omega) only [go_sem, Nat.reduceEqDiff, Nat.reduceAdd, Nat.reduceMul, Nat.reduceSub, Nat.reduceLeDiff, ↓reduceIte, reduceCtorEq, Int.reduceAdd, Int.reduceSub, Int.reduceMul, Int.reduceNeg, Int.reduceToNat, List.reduceReplicate, String.reduceEq, dTok_len, dTok_t4, m1, m2]
  refine (ris_spec G _ b [46]).mono ?_
  rintro _ H1 ⟨rfl, rfl⟩
  cases h8 : isR b [46]
  case false =>
    simp (disch := omega) only [go_sem, Nat.reduceEqDiff, Nat.reduceAdd, Nat.reduceMul, Nat.reduceSub, Nat.reduceLeDiff, ↓reduceIte, reduceCtorEq, Int.reduceAdd, Int.reduceSub, Int.reduceMul, Int.reduceNeg, Int.reduceToNat, List.reduceReplicate, String.reduceEq, dTok_len, dTok_t4, m1, m2]
    exact DFin.sub (show Sub H _ from (by repeat (first | exact Sub.refl _ | assumption | refine Sub.up ?_ (by assumption) _))) (DFin.refl ⟨by rw [closeB, h1, h2, h3, h4, h5, h6, h7, h8]; rfl, rfl⟩)
  simp (disch := omega) only [go_sem, Nat.reduceEqDiff, Nat.reduceAdd, Nat.reduceMul, Nat.reduceSub, Nat.reduceLeDiff, ↓reduceIte, reduceCtorEq, Int.reduceAdd, Int.reduceSub, Int.reduceMul, Int.reduceNeg, Int.reduceToNat, List.reduceReplicate, String.reduceEq, dTok_len, dTok_t4, m1, m2]
  refine (ris_spec G _ a [46]).mono ?_
  rintro _ H1 ⟨rfl, rfl⟩
  cases h9 : isR a [46]
  case true => rw [h7] at h9; cases h9
  simp (disch := omega) only [go_sem, Nat.reduceEqDiff, Nat.reduceAdd, Nat.reduceMul, Nat.reduceSub, Nat.reduceLeDiff, ↓reduceIte, reduceCtorEq, Int.reduceAdd, Int.reduceSub, Int.reduceMul, Int.reduceNeg, Int.reduceToNat, List.reduceReplicate, String.reduceEq, dTok_len, dTok_t4, m1, m2]
  refine (ris_spec G _ a [46, 46]).mono ?_
  rintro _ H1 ⟨rfl, rfl⟩
  cases h10 : isR a [46, 46]
  case true =>
    simp (disch := omega) only [go_sem, Nat.reduceEqDiff, Nat.reduceAdd, Nat.reduceMul, Nat.reduceSub, Nat.reduceLeDiff, ↓reduceIte, reduceCtorEq, Int.reduceAdd, Int.reduceSub, Int.reduceMul, Int.reduceNeg, Int.reduceToNat, List.reduceReplicate, String.reduceEq, dTok_len, dTok_t4, m1, m2]
    exact DFin.sub (show Sub H _ from (by repeat (first | exact Sub.refl _ | assumption | refine Sub.up ?_ (by assumption) _))) (DFin.refl ⟨by rw [closeB, h1, h2, h3, h4, h5, h6, h7, h8, h10]; rfl, rfl⟩)
  simp (disch := omega) only [go_sem, Nat.reduceEqDiff, Nat.reduceAdd, Nat.reduceMul, Nat.reduceSub, Nat.reduceLeDiff, ↓reduceIte, reduceCtorEq, Int.reduceAdd, Int.reduceSub, Int.reduceMul, Int.reduceNeg, Int.reduceToNat, List.reduceReplicate, String.reduceEq, dTok_len, dTok_t4, m1, m2]
  exact DFin.sub (show Sub H _ from (by repeat (first | exact Sub.refl _ | assumption | refine Sub.up ?_ (by assumption) _))) (DFin.refl ⟨by rw [closeB, h1, h2, h3, h4, h5, h6, h7, h8, h10]; rfl, rfl⟩)
theorem rdec_spec (G : Nat → DVal) : ∀ (n : Nat) (H : DHeap), n ≤ 2147483647 → DCalls Tryz.prog G 107 [dI n] H (DRet (.str (Lib.decDigits n)) H) := by
  intro n
  induction n using Nat.strongRecOn with
  | ind n ih =>
    intro H hn
    have t1 : Int.tmod (n : Int) 10 = ((n % 10 : Nat) : Int) := by rw [Int.tmod_eq_emod_of_nonneg (by omega)]; omega
    have t2 : Int.tdiv (n : Int) 10 = ((n / 10 : Nat) : Int) := by rw [Int.tdiv_eq_ediv_of_nonneg (by omega)]; omega
    have w1 : IntKind.i64.wrap ((n % 10 : Nat) : Int) = ((n % 10 : Nat) : Int) := by rw [IntKind.wrap_i64]; omega
    have w2 : IntKind.i64.wrap (48 + ((n % 10 : Nat) : Int)) = ((48 + n % 10 : Nat) : Int) := by rw [IntKind.wrap_i64]; omega
    have w3 : IntKind.u8.wrap ((48 + n % 10 : Nat) : Int) = ((48 + n % 10 : Nat) : Int) := by rw [IntKind.wrap_u8]; omega
    have w4 : IntKind.i64.wrap ((n / 10 : Nat) : Int) = ((n / 10 : Nat) : Int) := by rw [IntKind.wrap_i64]; omega
    refine dcalls_intro Tryz.func107 Tryz.call107 rfl (by kernel_rfl) ?_
    simp (disch := omega) only [go_sem, Nat.reduceEqDiff, Nat.reduceAdd, Nat.reduceMul, Nat.reduceSub, Nat.reduceLeDiff, ↓reduceIte, reduceCtorEq, Int.reduceAdd, Int.reduceSub, Int.reduceMul, Int.reduceNeg, Int.reduceToNat, List.reduceReplicate, String.reduceEq, t1, w1, w2, w3]
    intro r hr; dsimp only at hr
    have ho : (some [DVal.int IntKind.u8 ((48 + n % 10 : Nat) : Int)]).bind strOf = some [UInt8.ofNat (48 + n % 10)] := rfl
    simp (disch := omega) only [go_sem, Nat.reduceEqDiff, Nat.reduceAdd, Nat.reduceMul, Nat.reduceSub, Nat.reduceLeDiff, ↓reduceIte, reduceCtorEq, Int.reduceAdd, Int.reduceSub, Int.reduceMul, Int.reduceNeg, Int.reduceToNat, List.reduceReplicate, String.reduceEq]
    rw [ho]
    by_cases h : n < 10
    · have h' : ¬ (10 : Int) ≤ (n : Int) := by omega
      simp (disch := omega) only [go_sem, Nat.reduceEqDiff, Nat.reduceAdd, Nat.reduceMul, Nat.reduceSub, Nat.reduceLeDiff, ↓reduceIte, reduceCtorEq, Int.reduceAdd, Int.reduceSub, Int.reduceMul, Int.reduceNeg, Int.reduceToNat, List.reduceReplicate, String.reduceEq, h']
      refine DFin.dropA r hr (DFin.refl ⟨?_, rfl⟩)
      rw [(Lib.decDigits.eq_def n).trans (dif_pos h), Nat.mod_eq_of_lt h]
    · have h' : (10 : Int) ≤ (n : Int) := by omega
      simp (disch := omega) only [go_sem, Nat.reduceEqDiff, Nat.reduceAdd, Nat.reduceMul, Nat.reduceSub, Nat.reduceLeDiff, ↓reduceIte, reduceCtorEq, Int.reduceAdd, Int.reduceSub, Int.reduceMul, Int.reduceNeg, Int.reduceToNat, List.reduceReplicate, String.reduceEq, h', t2, w4]
      refine (ih (n / 10) (by omega) _ (by omega)).mono ?_
      rintro _ H1 ⟨rfl, rfl⟩
      simp (disch := omega) only [go_sem, Nat.reduceEqDiff, Nat.reduceAdd, Nat.reduceMul, Nat.reduceSub, Nat.reduceLeDiff, ↓reduceIte, reduceCtorEq, Int.reduceAdd, Int.reduceSub, Int.reduceMul, Int.reduceNeg, Int.reduceToNat, List.reduceReplicate, String.reduceEq]
      refine ⟨by have := dec_len (n := n / 10) (by omega); omega, DFin.dropA r hr (DFin.refl ⟨?_, rfl⟩)⟩
      rw [(Lib.decDigits.eq_def n).trans (dif_neg h)]
theorem rtext_spec (G : Nat → DVal) (H : DHeap) (t : Tok) (h : mayT t = true) : DCalls Tryz.prog G 81 [.agg (dTok t)] H (DRet (.str (textT t)) H) := by
  refine dcalls_intro Tryz.func81 Tryz.call81 rfl (by kernel_rfl) ?_
  simp (disch := omega) only [go_sem, Nat.reduceEqDiff, Nat.reduceAdd, Nat.reduceMul, Nat.reduceSub, Nat.reduceLeDiff, ↓reduceIte, reduceCtorEq, Int.reduceAdd, Int.reduceSub, Int.reduceMul, Int.reduceNeg, Int.reduceToNat, List.reduceReplicate, String.reduceEq, DVal.cells]
  intro r hr; dsimp only at hr
  by_cases k3 : t.kind = 3
  · obtain ⟨_, hx, hn0, hn1⟩ : t.kind = 3 ∧ t.text = [] ∧ 0 ≤ t.n ∧ t.n ≤ 2147483647 := by
      rcases mayT_kind h with h | h | h | h
      · omega
      · omega
      · omega
      · exact h
    obtain ⟨n, hn⟩ : ∃ n : Nat, t.n = (n : Int) := ⟨t.n.toNat, by omega⟩
    simp (disch := omega) only [go_sem, Nat.reduceEqDiff, Nat.reduceAdd, Nat.reduceMul, Nat.reduceSub, Nat.reduceLeDiff, ↓reduceIte, reduceCtorEq, Int.reduceAdd, Int.reduceSub, Int.reduceMul, Int.reduceNeg, Int.reduceToNat, List.reduceReplicate, String.reduceEq, dTok_len, dTok_0, dTok_2, dTok_3, k3, hn]
    refine (rdec_spec G n _ (by omega)).mono ?_
    rintro _ H1 ⟨rfl, rfl⟩
    simp (disch := omega) only [go_sem, Nat.reduceEqDiff, Nat.reduceAdd, Nat.reduceMul, Nat.reduceSub, Nat.reduceLeDiff, ↓reduceIte, reduceCtorEq, Int.reduceAdd, Int.reduceSub, Int.reduceMul, Int.reduceNeg, Int.reduceToNat, List.reduceReplicate, String.reduceEq]
    refine DFin.dropA r hr (DFin.refl ⟨?_, rfl⟩)
    rw [textT, if_pos k3, hx, List.append_nil, hn, itoa_pos (by omega)]; rfl
  · simp (disch := omega) only [go_sem, Nat.reduceEqDiff, Nat.reduceAdd, Nat.reduceMul, Nat.reduceSub, Nat.reduceLeDiff, ↓reduceIte, reduceCtorEq, Int.reduceAdd, Int.reduceSub, Int.reduceMul, Int.reduceNeg, Int.reduceToNat, List.reduceReplicate, String.reduceEq, dTok_len, dTok_0, dTok_2, dTok_3, k3]
    refine DFin.dropA r hr (DFin.refl ⟨?_, rfl⟩)
    rw [textT, if_neg k3]; rfl
theorem rfine_spec (G : Nat → DVal) (H : DHeap) (l : List Tok) (hl : l.length ≤ 1000000000) : DCalls Tryz.prog G 57 [dToks l] H (DRet (.bool (fineT l)) H) := by
  refine dcalls_intro Tryz.func57 Tryz.call57 rfl (by kernel_rfl) ?_
  simp (disch := omega) only [go_sem, Nat.reduceEqDiff, Nat.reduceAdd, Nat.reduceMul, Nat.reduceSub, Nat.reduceLeDiff, ↓reduceIte, reduceCtorEq, Int.reduceAdd, Int.reduceSub, Int.reduceMul, Int.reduceNeg, Int.reduceToNat, List.reduceReplicate, String.reduceEq, dToks]
  obtain ⟨I, hI⟩ : ∃ I : Nat → (Nat → DVal) → DHeap → Prop, ∀ k env heap, I k env heap ↔ (env 0 = .vslice (l.flatMap dTok) l.length ∧ env 3 = dI k ∧ k ≤ l.length ∧ fineT (l.take k) = true ∧ heap = H) := ⟨_, fun _ _ _ => Iff.rfl⟩
  refine DLoop.run I (fun k => l.length - k) 0 ((hI _ _ _).2 ?_) ?_
  · simp (disch := omega) only [go_sem, Nat.reduceEqDiff, Nat.reduceAdd, Nat.reduceMul, Nat.reduceSub, Nat.reduceLeDiff, ↓reduceIte, reduceCtorEq, Int.reduceAdd, Int.reduceSub, Int.reduceMul, Int.reduceNeg, Int.reduceToNat, List.reduceReplicate, String.reduceEq]
    (repeat' apply And.intro) <;> (try first | rfl | assumption | omega)
  · intro k env heap hi
    obtain ⟨e0, e3, hk, hf, rfl⟩ := (hI _ _ _).1 hi
    by_cases hlt : k < l.length
    · have hlt' : (k : Int) < (l.length : Int) := by omega
      have hget := flat_el dTok_len l k hlt
      have hfl := flat_len dTok_len l
      have hwd : IntKind.i64.wrap ((k : Int) + 1) = ((k + 1 : Nat) : Int) := by rw [IntKind.wrap_i64]; omega
      simp (disch := omega) only [go_sem, Nat.reduceEqDiff, Nat.reduceAdd, Nat.reduceMul, Nat.reduceSub, Nat.reduceLeDiff, ↓reduceIte, reduceCtorEq, Int.reduceAdd, Int.reduceSub, Int.reduceMul, Int.reduceNeg, Int.reduceToNat, List.reduceReplicate, String.reduceEq, e0, e3, hlt', hget, hfl, Int.toNat_natCast]
      refine (rmay_spec G _ l[k]).mono ?_
      rintro _ H1 ⟨rfl, rfl⟩
      cases hm : mayT l[k] with
      | true =>
        simp (disch := omega) only [go_sem, Nat.reduceEqDiff, Nat.reduceAdd, Nat.reduceMul, Nat.reduceSub, Nat.reduceLeDiff, ↓reduceIte, reduceCtorEq, Int.reduceAdd, Int.reduceSub, Int.reduceMul, Int.reduceNeg, Int.reduceToNat, List.reduceReplicate, String.reduceEq, e0, e3]
        refine ⟨k + 1, _, GhostS.refl _, (hI _ _ _).2 ?_, by omega⟩
        simp (disch := omega) only [go_sem, Nat.reduceEqDiff, Nat.reduceAdd, Nat.reduceMul, Nat.reduceSub, Nat.reduceLeDiff, ↓reduceIte, reduceCtorEq, Int.reduceAdd, Int.reduceSub, Int.reduceMul, Int.reduceNeg, Int.reduceToNat, List.reduceReplicate, String.reduceEq, e0, e3, hwd]
        (repeat' apply And.intro) <;> (try first | rfl | assumption | omega)
        exact fine_take hf hlt hm
      | false =>
        simp (disch := omega) only [go_sem, Nat.reduceEqDiff, Nat.reduceAdd, Nat.reduceMul, Nat.reduceSub, Nat.reduceLeDiff, ↓reduceIte, reduceCtorEq, Int.reduceAdd, Int.reduceSub, Int.reduceMul, Int.reduceNeg, Int.reduceToNat, List.reduceReplicate, String.reduceEq, e0, e3]
        refine DFin.refl ⟨?_, rfl⟩
        have : fineT l = false := by
          rw [fineT, List.all_eq_false]
          exact ⟨l[k], List.getElem_mem hlt, by rw [hm]; simp⟩
        rw [this]
    · have : k = l.length := by omega
      subst this
      rw [List.take_length] at hf
      simp (disch := omega) only [go_sem, Nat.reduceEqDiff, Nat.reduceAdd, Nat.reduceMul, Nat.reduceSub, Nat.reduceLeDiff, ↓reduceIte, reduceCtorEq, Int.reduceAdd, Int.reduceSub, Int.reduceMul, Int.reduceNeg, Int.reduceToNat, List.reduceReplicate, String.reduceEq, e0, e3]
      exact DFin.refl ⟨by rw [hf], rfl⟩
theorem fine_el {l : List Tok} (h : fineT l = true) {k : Nat} (hk : k < l.length) : mayT l[k] = true := List.all_eq_true.1 h _ (List.getElem_mem hk)
theorem rjoined_spec (G : Nat → DVal) (H : DHeap) (l : List Tok) (hl : l.length ≤ 1000000000) (hf : fineT l = true) : DCalls Tryz.prog G 58 [dToks l] H (DRet (.str (joinT l)) H) := by
  refine dcalls_intro Tryz.func58 Tryz.call58 rfl (by kernel_rfl) ?_
  simp (disch := omega) only [go_sem, Nat.reduceEqDiff, Nat.reduceAdd, Nat.reduceMul, Nat.reduceSub, Nat.reduceLeDiff, ↓reduceIte, reduceCtorEq, Int.reduceAdd, Int.reduceSub, Int.reduceMul, Int.reduceNeg, Int.reduceToNat, List.reduceReplicate, String.reduceEq, dToks]
  obtain ⟨I, hI⟩ : ∃ I : Nat → (Nat → DVal) → DHeap → Prop, ∀ k env heap, I k env heap ↔ (env 0 = .vslice (l.flatMap dTok) l.length ∧ env 3 = .str (joinK l k) ∧ env 4 = dI k ∧ k ≤ l.length ∧ heap = H) := ⟨_, fun _ _ _ => Iff.rfl⟩
  refine DLoop.run I (fun k => l.length - k) 0 ((hI _ _ _).2 ?_) ?_
  · simp (disch := omega) only [go_sem, Nat.reduceEqDiff, Nat.reduceAdd, Nat.reduceMul, Nat.reduceSub, Nat.reduceLeDiff, ↓reduceIte, reduceCtorEq, Int.reduceAdd, Int.reduceSub, Int.reduceMul, Int.reduceNeg, Int.reduceToNat, List.reduceReplicate, String.reduceEq]
    (repeat' apply And.intro) <;> (try first | rfl | assumption | omega)
  · intro k env heap hi
    obtain ⟨e0, e3, e4, hk, rfl⟩ := (hI _ _ _).1 hi
    by_cases hlt : k < l.length
    · have hlt' : (k : Int) < (l.length : Int) := by omega
      have hget := flat_el dTok_len l k hlt
      have hfl := flat_len dTok_len l
      have hm := fine_el hf hlt
      have hsucc := joinK_succ hlt
      have hjl := joinK_len (l := l) (k := k) (List.all_eq_true.2 fun t ht => List.all_eq_true.1 hf t (List.mem_of_mem_take ht))
      have htl := (text_char hm).2.2
      have hwd : IntKind.i64.wrap ((k : Int) + 1) = ((k + 1 : Nat) : Int) := by rw [IntKind.wrap_i64]; omega
      simp (disch := omega) only [go_sem, Nat.reduceEqDiff, Nat.reduceAdd, Nat.reduceMul, Nat.reduceSub, Nat.reduceLeDiff, ↓reduceIte, reduceCtorEq, Int.reduceAdd, Int.reduceSub, Int.reduceMul, Int.reduceNeg, Int.reduceToNat, List.reduceReplicate, String.reduceEq, e0, e3, e4, hlt']
      refine dwp_draws (by kernel_rfl) (.take 0 (.take 1 (.take 2 (.take 3 (.take 4 (.take 5 (.take 6 (.take 7 (.take 8 (.take 9 (.take 10 (.take 11 (.go 12 [] (.take 13 (.take 14 .done))))))))))))))) (by kernel_rfl) ?_
      by_cases h0 : 0 < k
      · have h0' : (0 : Int) < (k : Int) := by omega
        have hkm : k - 1 < l.length := by omega
        have hgetp := flat_el dTok_len l (k - 1) hkm
        have hw1 : IntKind.i64.wrap ((k : Int) - 1) = ((k - 1 : Nat) : Int) := by rw [IntKind.wrap_i64]; omega
        have hkm' : ((k - 1 : Nat) : Int) < (l.length : Int) := by omega
        rw [dif_pos h0, apart_close] at hsucc
        simp (disch := omega) only [go_sem, Nat.reduceEqDiff, Nat.reduceAdd, Nat.reduceMul, Nat.reduceSub, Nat.reduceLeDiff, ↓reduceIte, reduceCtorEq, Int.reduceAdd, Int.reduceSub, Int.reduceMul, Int.reduceNeg, Int.reduceToNat, List.reduceReplicate, String.reduceEq, e0, e3, e4, h0', hw1, hgetp, hget, hfl, hkm', hlt', Int.toNat_natCast]
        refine (rclose_spec G _ l[k - 1] l[k]).mono ?_
        rintro _ H1 ⟨rfl, rfl⟩
        cases hc : closeB l[k - 1] l[k] with
        | true =>
          rw [hc, if_neg (by simp), List.nil_append] at hsucc
          simp (disch := omega) only [go_sem, Nat.reduceEqDiff, Nat.reduceAdd, Nat.reduceMul, Nat.reduceSub, Nat.reduceLeDiff, ↓reduceIte, reduceCtorEq, Int.reduceAdd, Int.reduceSub, Int.reduceMul, Int.reduceNeg, Int.reduceToNat, List.reduceReplicate, String.reduceEq, e0, e3, e4, hget, hfl, hlt', Int.toNat_natCast]
          refine (rtext_spec G _ l[k] hm).mono ?_
          rintro _ H1 ⟨rfl, rfl⟩
          simp (disch := omega) only [go_sem, Nat.reduceEqDiff, Nat.reduceAdd, Nat.reduceMul, Nat.reduceSub, Nat.reduceLeDiff, ↓reduceIte, reduceCtorEq, Int.reduceAdd, Int.reduceSub, Int.reduceMul, Int.reduceNeg, Int.reduceToNat, List.reduceReplicate, String.reduceEq, e0, e3, e4]
          refine ⟨k + 1, _, GhostS.refl _, (hI _ _ _).2 ?_, by omega⟩
          simp (disch := omega) only [go_sem, Nat.reduceEqDiff, Nat.reduceAdd, Nat.reduceMul, Nat.reduceSub, Nat.reduceLeDiff, ↓reduceIte, reduceCtorEq, Int.reduceAdd, Int.reduceSub, Int.reduceMul, Int.reduceNeg, Int.reduceToNat, List.reduceReplicate, String.reduceEq, e0, e3, e4, hwd]
          (repeat' apply And.intro) <;> (try first | rfl | assumption | omega)
          rw [hsucc]
        | false =>
          rw [hc, if_pos (by simp)] at hsucc
          simp (disch := omega) only [go_sem, Nat.reduceEqDiff, Nat.reduceAdd, Nat.reduceMul, Nat.reduceSub, Nat.reduceLeDiff, ↓reduceIte, reduceCtorEq, Int.reduceAdd, Int.reduceSub, Int.reduceMul, Int.reduceNeg, Int.reduceToNat, List.reduceReplicate, String.reduceEq, e0, e3, e4, hget, hfl, hlt', Int.toNat_natCast]
          refine (rtext_spec G _ l[k] hm).mono ?_
          rintro _ H1 ⟨rfl, rfl⟩
          simp (disch := omega) only [go_sem, Nat.reduceEqDiff, Nat.reduceAdd, Nat.reduceMul, Nat.reduceSub, Nat.reduceLeDiff, ↓reduceIte, reduceCtorEq, Int.reduceAdd, Int.reduceSub, Int.reduceMul, Int.reduceNeg, Int.reduceToNat, List.reduceReplicate, String.reduceEq, e0, e3, e4]
          refine ⟨by rw [List.length_append, List.length_singleton]; omega, k + 1, _, GhostS.refl _, (hI _ _ _).2 ?_, by omega⟩
          simp (disch := omega) only [go_sem, Nat.reduceEqDiff, Nat.reduceAdd, Nat.reduceMul, Nat.reduceSub, Nat.reduceLeDiff, ↓reduceIte, reduceCtorEq, Int.reduceAdd, Int.reduceSub, Int.reduceMul, Int.reduceNeg, Int.reduceToNat, List.reduceReplicate, String.reduceEq, e0, e3, e4, hwd]
          (repeat' apply And.intro) <;> (try first | rfl | assumption | omega)
          rw [hsucc, List.append_assoc]
      · have h0' : ¬ (0 : Int) < (k : Int) := by omega
        rw [dif_neg h0, List.nil_append] at hsucc
        simp (disch := omega) only [go_sem, Nat.reduceEqDiff, Nat.reduceAdd, Nat.reduceMul, Nat.reduceSub, Nat.reduceLeDiff, ↓reduceIte, reduceCtorEq, Int.reduceAdd, Int.reduceSub, Int.reduceMul, Int.reduceNeg, Int.reduceToNat, List.reduceReplicate, String.reduceEq, e0, e3, e4, h0', hget, hfl, hlt', Int.toNat_natCast]
        refine (rtext_spec G _ l[k] hm).mono ?_
        rintro _ H1 ⟨rfl, rfl⟩
        simp (disch := omega) only [go_sem, Nat.reduceEqDiff, Nat.reduceAdd, Nat.reduceMul, Nat.reduceSub, Nat.reduceLeDiff, ↓reduceIte, reduceCtorEq, Int.reduceAdd, Int.reduceSub, Int.reduceMul, Int.reduceNeg, Int.reduceToNat, List.reduceReplicate, String.reduceEq, e0, e3, e4]
        refine ⟨k + 1, _, GhostS.refl _, (hI _ _ _).2 ?_, by omega⟩
        simp (disch := omega) only [go_sem, Nat.reduceEqDiff, Nat.reduceAdd, Nat.reduceMul, Nat.reduceSub, Nat.reduceLeDiff, ↓reduceIte, reduceCtorEq, Int.reduceAdd, Int.reduceSub, Int.reduceMul, Int.reduceNeg, Int.reduceToNat, List.reduceReplicate, String.reduceEq, e0, e3, e4, hwd]
        (repeat' apply And.intro) <;> (try first | rfl | assumption | omega)
        rw [hsucc]
    · have : k = l.length := by omega
      subst this
      simp (disch := omega) only [go_sem, Nat.reduceEqDiff, Nat.reduceAdd, Nat.reduceMul, Nat.reduceSub, Nat.reduceLeDiff, ↓reduceIte, reduceCtorEq, Int.reduceAdd, Int.reduceSub, Int.reduceMul, Int.reduceNeg, Int.reduceToNat, List.reduceReplicate, String.reduceEq, e0, e3, e4]
      refine DFin.refl ⟨?_, rfl⟩
      rw [joinK, List.take_length]
theorem rText_spec (G : Nat → DVal) (H : DHeap) (l : List Tok) (hl : l.length ≤ 1000000000) : DCalls Tryz.prog G 25 [dToks l] H (DRet (.tuple [.str (textD l).1, dI (textD l).2]) H) := by
  refine dcalls_intro Tryz.func25 Tryz.call25 rfl (by kernel_rfl) ?_
  simp (disch := omega) only [go_sem, Nat.reduceEqDiff, Nat.reduceAdd, Nat.reduceMul, Nat.reduceSub, Nat.reduceLeDiff, ↓reduceIte, reduceCtorEq, Int.reduceAdd, Int.reduceSub, Int.reduceMul, Int.reduceNeg, Int.reduceToNat, List.reduceReplicate, String.reduceEq]
  refine (rfine_spec G _ l hl).mono ?_
  rintro _ H1 ⟨rfl, rfl⟩
  cases hf : fineT l with
  | false =>
    simp (disch := omega) only [go_sem, Nat.reduceEqDiff, Nat.reduceAdd, Nat.reduceMul, Nat.reduceSub, Nat.reduceLeDiff, ↓reduceIte, reduceCtorEq, Int.reduceAdd, Int.reduceSub, Int.reduceMul, Int.reduceNeg, Int.reduceToNat, List.reduceReplicate, String.reduceEq]
    exact DFin.refl ⟨by rw [textD, hf]; rfl, rfl⟩
  | true =>
    simp (disch := omega) only [go_sem, Nat.reduceEqDiff, Nat.reduceAdd, Nat.reduceMul, Nat.reduceSub, Nat.reduceLeDiff, ↓reduceIte, reduceCtorEq, Int.reduceAdd, Int.reduceSub, Int.reduceMul, Int.reduceNeg, Int.reduceToNat, List.reduceReplicate, String.reduceEq]
    refine (rjoined_spec G _ l hl hf).mono ?_
    rintro _ H1 ⟨rfl, rfl⟩
    by_cases h : 256 < (joinT l).length
    · have h' : (256 : Int) < ((joinT l).length : Int) := by omega
      simp (disch := omega) only [go_sem, Nat.reduceEqDiff, Nat.reduceAdd, Nat.reduceMul, Nat.reduceSub, Nat.reduceLeDiff, ↓reduceIte, reduceCtorEq, Int.reduceAdd, Int.reduceSub, Int.reduceMul, Int.reduceNeg, Int.reduceToNat, List.reduceReplicate, String.reduceEq, h']
      exact DFin.refl ⟨by rw [textD, hf, if_pos rfl, if_pos h], rfl⟩
    · have h' : ¬ (256 : Int) < ((joinT l).length : Int) := by omega
      simp (disch := omega) only [go_sem, Nat.reduceEqDiff, Nat.reduceAdd, Nat.reduceMul, Nat.reduceSub, Nat.reduceLeDiff, ↓reduceIte, reduceCtorEq, Int.reduceAdd, Int.reduceSub, Int.reduceMul, Int.reduceNeg, Int.reduceToNat, List.reduceReplicate, String.reduceEq, h']
      exact DFin.refl ⟨by rw [textD, hf, if_pos rfl, if_neg h], rfl⟩
end
end Go.Dl
