/- The data level and the contracts of the functions that are reached (part 9). -/
import Derived.Test.YtimnmempnhjbfaaMbh
set_option linter.unusedSimpArgs false
set_option linter.unusedVariables false
-- The examples of chapter 32.
namespace Go.Dl
open Go Go.Proofs
set_option maxRecDepth 10000
set_option maxHeartbeats 4000000

def sPS : PS := ⟨true, 1, [[3, 5], [4]]⟩
theorem awake32_spec (G : Nat → DVal) (hG : ∀ g, ∃ r o, G g = .optr r o) (H : DHeap) : DCalls Try.prog G 37 [] H (DRet (.bool true) H) := by
  refine dcalls_intro Try.func37 Try.call37 rfl (by kernel_rfl) ?_
  simp (disch := omega) only [go_sem, Nat.reduceEqDiff, Nat.reduceAdd, Nat.reduceMul, Nat.reduceSub, Nat.reduceLeDiff, ↓reduceIte, reduceCtorEq, Int.reduceAdd, Int.reduceSub, Int.reduceMul, Int.reduceNeg, Int.reduceToNat, List.reduceReplicate, String.reduceEq]
  refine (some_spec G _).mono ?_
  rintro _ H ⟨rfl, rfl⟩
  simp (disch := omega) only [go_sem, Nat.reduceEqDiff, Nat.reduceAdd, Nat.reduceMul, Nat.reduceSub, Nat.reduceLeDiff, ↓reduceIte, reduceCtorEq, Int.reduceAdd, Int.reduceSub, Int.reduceMul, Int.reduceNeg, Int.reduceToNat, List.reduceReplicate, String.reduceEq]
  (intro a1 ha1; dsimp only at ha1; try simp only [upd_eq_none] at ha1)
  (try simp (disch := omega) only [go_sem, Nat.reduceEqDiff, Nat.reduceAdd, Nat.reduceMul, Nat.reduceSub, Nat.reduceLeDiff, ↓reduceIte, reduceCtorEq, Int.reduceAdd, Int.reduceSub, Int.reduceMul, Int.reduceNeg, Int.reduceToNat, List.reduceReplicate, String.reduceEq, ha1])
  refine DCalls.fzA a1 (by simp [upd, ha1]) ?_
  (try simp (disch := omega) only [go_sem, Nat.reduceEqDiff, Nat.reduceAdd, Nat.reduceMul, Nat.reduceSub, Nat.reduceLeDiff, ↓reduceIte, reduceCtorEq, Int.reduceAdd, Int.reduceSub, Int.reduceMul, Int.reduceNeg, Int.reduceToNat, List.reduceReplicate, String.reduceEq, ha1])
  refine (OwnR2.frozen (end_spec G sPS [false, false] _ (by decide) (by decide) (by decide))).mono ?_
  rintro _ H ⟨rfl, rfl⟩
  rw [show endL sPS [false, false] = (⟨false, 0, [[3, 5], [4]]⟩, ZH, 0) by decide]
  simp (disch := omega) only [go_sem, Nat.reduceEqDiff, Nat.reduceAdd, Nat.reduceMul, Nat.reduceSub, Nat.reduceLeDiff, ↓reduceIte, reduceCtorEq, Int.reduceAdd, Int.reduceSub, Int.reduceMul, Int.reduceNeg, Int.reduceToNat, List.reduceReplicate, String.reduceEq, dR2, dR1, dH, ZH, ZPS]
  intro c1 hc1; dsimp only at hc1; try simp only [upd_eq_none] at hc1
  simp (disch := omega) only [go_sem, Nat.reduceEqDiff, Nat.reduceAdd, Nat.reduceMul, Nat.reduceSub, Nat.reduceLeDiff, ↓reduceIte, reduceCtorEq, Int.reduceAdd, Int.reduceSub, Int.reduceMul, Int.reduceNeg, Int.reduceToNat, List.reduceReplicate, String.reduceEq, hc1]
  intro c2 hc2; dsimp only at hc2; try simp only [upd_eq_none] at hc2
  simp (disch := omega) only [go_sem, Nat.reduceEqDiff, Nat.reduceAdd, Nat.reduceMul, Nat.reduceSub, Nat.reduceLeDiff, ↓reduceIte, reduceCtorEq, Int.reduceAdd, Int.reduceSub, Int.reduceMul, Int.reduceNeg, Int.reduceToNat, List.reduceReplicate, String.reduceEq, hc2]
  refine (some_spec G _).mono ?_
  rintro _ H ⟨rfl, rfl⟩
  simp (disch := omega) only [go_sem, Nat.reduceEqDiff, Nat.reduceAdd, Nat.reduceMul, Nat.reduceSub, Nat.reduceLeDiff, ↓reduceIte, reduceCtorEq, Int.reduceAdd, Int.reduceSub, Int.reduceMul, Int.reduceNeg, Int.reduceToNat, List.reduceReplicate, String.reduceEq]
  (intro a2 ha2; dsimp only at ha2; try simp only [upd_eq_none] at ha2)
  (try simp (disch := omega) only [go_sem, Nat.reduceEqDiff, Nat.reduceAdd, Nat.reduceMul, Nat.reduceSub, Nat.reduceLeDiff, ↓reduceIte, reduceCtorEq, Int.reduceAdd, Int.reduceSub, Int.reduceMul, Int.reduceNeg, Int.reduceToNat, List.reduceReplicate, String.reduceEq, ha2])
  refine DCalls.fzA a2 (by simp [upd, ha2]) ?_
  (try simp (disch := omega) only [go_sem, Nat.reduceEqDiff, Nat.reduceAdd, Nat.reduceMul, Nat.reduceSub, Nat.reduceLeDiff, ↓reduceIte, reduceCtorEq, Int.reduceAdd, Int.reduceSub, Int.reduceMul, Int.reduceNeg, Int.reduceToNat, List.reduceReplicate, String.reduceEq, ha2])
  refine (OwnR2.frozen (end_spec G sPS [true, true] _ (by decide) (by decide) (by decide))).mono ?_
  rintro _ H ⟨rfl, rfl⟩
  rw [show endL sPS [true, true] = (⟨true, 3, [[5], [4]]⟩, (true, 3, 0), 0) by decide]
  simp (disch := omega) only [go_sem, Nat.reduceEqDiff, Nat.reduceAdd, Nat.reduceMul, Nat.reduceSub, Nat.reduceLeDiff, ↓reduceIte, reduceCtorEq, Int.reduceAdd, Int.reduceSub, Int.reduceMul, Int.reduceNeg, Int.reduceToNat, List.reduceReplicate, String.reduceEq, dR2, dR1, dH, ZH, ZPS]
  intro c4 hc4; dsimp only at hc4; try simp only [upd_eq_none] at hc4
  simp (disch := omega) only [go_sem, Nat.reduceEqDiff, Nat.reduceAdd, Nat.reduceMul, Nat.reduceSub, Nat.reduceLeDiff, ↓reduceIte, reduceCtorEq, Int.reduceAdd, Int.reduceSub, Int.reduceMul, Int.reduceNeg, Int.reduceToNat, List.reduceReplicate, String.reduceEq, hc4]
  intro c5 hc5; dsimp only at hc5; try simp only [upd_eq_none] at hc5
  simp (disch := omega) only [go_sem, Nat.reduceEqDiff, Nat.reduceAdd, Nat.reduceMul, Nat.reduceSub, Nat.reduceLeDiff, ↓reduceIte, reduceCtorEq, Int.reduceAdd, Int.reduceSub, Int.reduceMul, Int.reduceNeg, Int.reduceToNat, List.reduceReplicate, String.reduceEq, hc5]
  refine (some_spec G _).mono ?_
  rintro _ H ⟨rfl, rfl⟩
  simp (disch := omega) only [go_sem, Nat.reduceEqDiff, Nat.reduceAdd, Nat.reduceMul, Nat.reduceSub, Nat.reduceLeDiff, ↓reduceIte, reduceCtorEq, Int.reduceAdd, Int.reduceSub, Int.reduceMul, Int.reduceNeg, Int.reduceToNat, List.reduceReplicate, String.reduceEq]
  (intro a3 ha3; dsimp only at ha3; try simp only [upd_eq_none] at ha3)
  (try simp (disch := omega) only [go_sem, Nat.reduceEqDiff, Nat.reduceAdd, Nat.reduceMul, Nat.reduceSub, Nat.reduceLeDiff, ↓reduceIte, reduceCtorEq, Int.reduceAdd, Int.reduceSub, Int.reduceMul, Int.reduceNeg, Int.reduceToNat, List.reduceReplicate, String.reduceEq, ha3])
  refine DCalls.fzA a3 (by simp [upd, ha3]) ?_
  (try simp (disch := omega) only [go_sem, Nat.reduceEqDiff, Nat.reduceAdd, Nat.reduceMul, Nat.reduceSub, Nat.reduceLeDiff, ↓reduceIte, reduceCtorEq, Int.reduceAdd, Int.reduceSub, Int.reduceMul, Int.reduceNeg, Int.reduceToNat, List.reduceReplicate, String.reduceEq, ha3])
  refine (OwnR2.frozen (wait_spec G sPS 1 [false, true] _ (by decide) (by decide) (by decide))).mono ?_
  rintro _ H ⟨rfl, rfl⟩
  rw [show waitL sPS 1 [false, true] = (⟨true, 4, [[3, 5], [1]]⟩, (true, 4, 1), 0) by decide]
  simp (disch := omega) only [go_sem, Nat.reduceEqDiff, Nat.reduceAdd, Nat.reduceMul, Nat.reduceSub, Nat.reduceLeDiff, ↓reduceIte, reduceCtorEq, Int.reduceAdd, Int.reduceSub, Int.reduceMul, Int.reduceNeg, Int.reduceToNat, List.reduceReplicate, String.reduceEq, dR2, dR1, dH, ZH, ZPS]
  intro c7 hc7; dsimp only at hc7; try simp only [upd_eq_none] at hc7
  simp (disch := omega) only [go_sem, Nat.reduceEqDiff, Nat.reduceAdd, Nat.reduceMul, Nat.reduceSub, Nat.reduceLeDiff, ↓reduceIte, reduceCtorEq, Int.reduceAdd, Int.reduceSub, Int.reduceMul, Int.reduceNeg, Int.reduceToNat, List.reduceReplicate, String.reduceEq, hc7]
  intro c8 hc8; dsimp only at hc8; try simp only [upd_eq_none] at hc8
  simp (disch := omega) only [go_sem, Nat.reduceEqDiff, Nat.reduceAdd, Nat.reduceMul, Nat.reduceSub, Nat.reduceLeDiff, ↓reduceIte, reduceCtorEq, Int.reduceAdd, Int.reduceSub, Int.reduceMul, Int.reduceNeg, Int.reduceToNat, List.reduceReplicate, String.reduceEq, hc8]
  refine (some_spec G _).mono ?_
  rintro _ H ⟨rfl, rfl⟩
  simp (disch := omega) only [go_sem, Nat.reduceEqDiff, Nat.reduceAdd, Nat.reduceMul, Nat.reduceSub, Nat.reduceLeDiff, ↓reduceIte, reduceCtorEq, Int.reduceAdd, Int.reduceSub, Int.reduceMul, Int.reduceNeg, Int.reduceToNat, List.reduceReplicate, String.reduceEq]
  refine (OwnR1.frozen (begin_spec G sPS 2 0 0 _ (by decide) (by decide))).mono ?_
  rintro _ H ⟨rfl, rfl⟩
  rw [show beginL sPS 2 0 0 = (ZPS, 8) by decide]
  simp (disch := omega) only [go_sem, Nat.reduceEqDiff, Nat.reduceAdd, Nat.reduceMul, Nat.reduceSub, Nat.reduceLeDiff, ↓reduceIte, reduceCtorEq, Int.reduceAdd, Int.reduceSub, Int.reduceMul, Int.reduceNeg, Int.reduceToNat, List.reduceReplicate, String.reduceEq, dR2, dR1, dH, ZH, ZPS]
  intro c10 hc10; dsimp only at hc10; try simp only [upd_eq_none] at hc10
  simp (disch := omega) only [go_sem, Nat.reduceEqDiff, Nat.reduceAdd, Nat.reduceMul, Nat.reduceSub, Nat.reduceLeDiff, ↓reduceIte, reduceCtorEq, Int.reduceAdd, Int.reduceSub, Int.reduceMul, Int.reduceNeg, Int.reduceToNat, List.reduceReplicate, String.reduceEq, hc10]
  refine (some_spec G _).mono ?_
  rintro _ H ⟨rfl, rfl⟩
  simp (disch := omega) only [go_sem, Nat.reduceEqDiff, Nat.reduceAdd, Nat.reduceMul, Nat.reduceSub, Nat.reduceLeDiff, ↓reduceIte, reduceCtorEq, Int.reduceAdd, Int.reduceSub, Int.reduceMul, Int.reduceNeg, Int.reduceToNat, List.reduceReplicate, String.reduceEq]
  refine (OwnR1.frozen (begin_spec G sPS 3 0 0 _ (by decide) (by decide))).mono ?_
  rintro _ H ⟨rfl, rfl⟩
  rw [show beginL sPS 3 0 0 = (ZPS, 7) by decide]
  simp (disch := omega) only [go_sem, Nat.reduceEqDiff, Nat.reduceAdd, Nat.reduceMul, Nat.reduceSub, Nat.reduceLeDiff, ↓reduceIte, reduceCtorEq, Int.reduceAdd, Int.reduceSub, Int.reduceMul, Int.reduceNeg, Int.reduceToNat, List.reduceReplicate, String.reduceEq, dR2, dR1, dH, ZH, ZPS]
  intro c12 hc12; dsimp only at hc12; try simp only [upd_eq_none] at hc12
  simp (disch := omega) only [go_sem, Nat.reduceEqDiff, Nat.reduceAdd, Nat.reduceMul, Nat.reduceSub, Nat.reduceLeDiff, ↓reduceIte, reduceCtorEq, Int.reduceAdd, Int.reduceSub, Int.reduceMul, Int.reduceNeg, Int.reduceToNat, List.reduceReplicate, String.reduceEq, hc12]
  refine DCalls.leArgs (.cons (.nilQ _ _) (.refl _)) ?_
  refine (OwnR1.frozen (begin_spec G ZPS 1 4 3 _ (by decide) (by decide))).mono ?_
  rintro _ H ⟨rfl, rfl⟩
  rw [show beginL ZPS 1 4 3 = (ZPS, 4) by decide]
  simp (disch := omega) only [go_sem, Nat.reduceEqDiff, Nat.reduceAdd, Nat.reduceMul, Nat.reduceSub, Nat.reduceLeDiff, ↓reduceIte, reduceCtorEq, Int.reduceAdd, Int.reduceSub, Int.reduceMul, Int.reduceNeg, Int.reduceToNat, List.reduceReplicate, String.reduceEq, dR2, dR1, dH, ZH, ZPS]
  intro c14 hc14; dsimp only at hc14; try simp only [upd_eq_none] at hc14
  simp (disch := omega) only [go_sem, Nat.reduceEqDiff, Nat.reduceAdd, Nat.reduceMul, Nat.reduceSub, Nat.reduceLeDiff, ↓reduceIte, reduceCtorEq, Int.reduceAdd, Int.reduceSub, Int.reduceMul, Int.reduceNeg, Int.reduceToNat, List.reduceReplicate, String.reduceEq, hc14]
  refine dwp_draws (by kernel_rfl) (.take 0 (.take 1 (.take 2 (.take 3 (.take 4 (.take 5 (.take 6 (.take 7 (.take 8 (.go 9 [8, 3] (.take 10 (.take 11 (.go 12 [3] (.take 13 (.take 14 (.take 15 (.take 16 (.take 17 (.take 18 (.take 19 (.take 20 (.take 21 (.take 22 (.take 23 .done)))))))))))))))))))))))) (by kernel_rfl) ?_
  simp (disch := omega) only [go_sem, Nat.reduceEqDiff, Nat.reduceAdd, Nat.reduceMul, Nat.reduceSub, Nat.reduceLeDiff, ↓reduceIte, reduceCtorEq, Int.reduceAdd, Int.reduceSub, Int.reduceMul, Int.reduceNeg, Int.reduceToNat, List.reduceReplicate, String.reduceEq, hc1, hc2, hc4, hc5, hc7, hc8, hc10, hc12, hc14]
  refine (some_spec G _).mono ?_
  rintro _ H ⟨rfl, rfl⟩
  simp (disch := omega) only [go_sem, Nat.reduceEqDiff, Nat.reduceAdd, Nat.reduceMul, Nat.reduceSub, Nat.reduceLeDiff, ↓reduceIte, reduceCtorEq, Int.reduceAdd, Int.reduceSub, Int.reduceMul, Int.reduceNeg, Int.reduceToNat, List.reduceReplicate, String.reduceEq, hc1, hc2, hc4, hc5, hc7, hc8, hc10, hc12, hc14]
  refine (fsame_spec G hG ⟨false, 0, [[3, 5], [4]]⟩ ⟨false, 0, [[3, 5], [4]]⟩ _ (by decide) (by decide) (by decide) (by decide)).mono ?_
  rintro _ H ⟨rfl, rfl⟩
  simp (disch := omega) only [go_sem, Nat.reduceEqDiff, Nat.reduceAdd, Nat.reduceMul, Nat.reduceSub, Nat.reduceLeDiff, ↓reduceIte, reduceCtorEq, Int.reduceAdd, Int.reduceSub, Int.reduceMul, Int.reduceNeg, Int.reduceToNat, List.reduceReplicate, String.reduceEq, KeepK, hc1, hc2, hc4, hc5, hc7, hc8, hc10, hc12, hc14]
  (intro a4 ha4; dsimp only at ha4; try simp only [upd_eq_none] at ha4)
  (try simp (disch := omega) only [go_sem, Nat.reduceEqDiff, Nat.reduceAdd, Nat.reduceMul, Nat.reduceSub, Nat.reduceLeDiff, ↓reduceIte, reduceCtorEq, Int.reduceAdd, Int.reduceSub, Int.reduceMul, Int.reduceNeg, Int.reduceToNat, List.reduceReplicate, String.reduceEq, ha4])
  (intro a5 ha5; dsimp only at ha5; try simp only [upd_eq_none] at ha5)
  (try simp (disch := omega) only [go_sem, Nat.reduceEqDiff, Nat.reduceAdd, Nat.reduceMul, Nat.reduceSub, Nat.reduceLeDiff, ↓reduceIte, reduceCtorEq, Int.reduceAdd, Int.reduceSub, Int.reduceMul, Int.reduceNeg, Int.reduceToNat, List.reduceReplicate, String.reduceEq, ha4, ha5])
  (intro a6 ha6; dsimp only at ha6; try simp only [upd_eq_none] at ha6)
  (try simp (disch := omega) only [go_sem, Nat.reduceEqDiff, Nat.reduceAdd, Nat.reduceMul, Nat.reduceSub, Nat.reduceLeDiff, ↓reduceIte, reduceCtorEq, Int.reduceAdd, Int.reduceSub, Int.reduceMul, Int.reduceNeg, Int.reduceToNat, List.reduceReplicate, String.reduceEq, ha4, ha5, ha6])
  refine DCalls.fzA a6 (by simp [upd, ha4, ha5, ha6]) ?_
  (try simp (disch := omega) only [go_sem, Nat.reduceEqDiff, Nat.reduceAdd, Nat.reduceMul, Nat.reduceSub, Nat.reduceLeDiff, ↓reduceIte, reduceCtorEq, Int.reduceAdd, Int.reduceSub, Int.reduceMul, Int.reduceNeg, Int.reduceToNat, List.reduceReplicate, String.reduceEq, ha4, ha5, ha6])
  refine DCalls.fzA a5 (by simp [upd, ha4, ha5, ha6]) ?_
  (try simp (disch := omega) only [go_sem, Nat.reduceEqDiff, Nat.reduceAdd, Nat.reduceMul, Nat.reduceSub, Nat.reduceLeDiff, ↓reduceIte, reduceCtorEq, Int.reduceAdd, Int.reduceSub, Int.reduceMul, Int.reduceNeg, Int.reduceToNat, List.reduceReplicate, String.reduceEq, ha4, ha5, ha6])
  refine DCalls.fzA a4 (by simp [upd, ha4, ha5, ha6]) ?_
  (try simp (disch := omega) only [go_sem, Nat.reduceEqDiff, Nat.reduceAdd, Nat.reduceMul, Nat.reduceSub, Nat.reduceLeDiff, ↓reduceIte, reduceCtorEq, Int.reduceAdd, Int.reduceSub, Int.reduceMul, Int.reduceNeg, Int.reduceToNat, List.reduceReplicate, String.reduceEq, ha4, ha5, ha6])
  refine (fsame_spec G hG ⟨true, 3, [[5], [4]]⟩ ⟨true, 3, [[5], [4]]⟩ _ (by decide) (by decide) (by decide) (by decide)).mono ?_
  rintro _ H ⟨rfl, rfl⟩
  simp (disch := omega) only [go_sem, Nat.reduceEqDiff, Nat.reduceAdd, Nat.reduceMul, Nat.reduceSub, Nat.reduceLeDiff, ↓reduceIte, reduceCtorEq, Int.reduceAdd, Int.reduceSub, Int.reduceMul, Int.reduceNeg, Int.reduceToNat, List.reduceReplicate, String.reduceEq, hc1, hc2, hc4, hc5, hc7, hc8, hc10, hc12, hc14]
  (intro a7 ha7; dsimp only at ha7; try simp only [upd_eq_none] at ha7)
  (try simp (disch := omega) only [go_sem, Nat.reduceEqDiff, Nat.reduceAdd, Nat.reduceMul, Nat.reduceSub, Nat.reduceLeDiff, ↓reduceIte, reduceCtorEq, Int.reduceAdd, Int.reduceSub, Int.reduceMul, Int.reduceNeg, Int.reduceToNat, List.reduceReplicate, String.reduceEq, ha7])
  (intro a8 ha8; dsimp only at ha8; try simp only [upd_eq_none] at ha8)
  (try simp (disch := omega) only [go_sem, Nat.reduceEqDiff, Nat.reduceAdd, Nat.reduceMul, Nat.reduceSub, Nat.reduceLeDiff, ↓reduceIte, reduceCtorEq, Int.reduceAdd, Int.reduceSub, Int.reduceMul, Int.reduceNeg, Int.reduceToNat, List.reduceReplicate, String.reduceEq, ha7, ha8])
  (intro a9 ha9; dsimp only at ha9; try simp only [upd_eq_none] at ha9)
  (try simp (disch := omega) only [go_sem, Nat.reduceEqDiff, Nat.reduceAdd, Nat.reduceMul, Nat.reduceSub, Nat.reduceLeDiff, ↓reduceIte, reduceCtorEq, Int.reduceAdd, Int.reduceSub, Int.reduceMul, Int.reduceNeg, Int.reduceToNat, List.reduceReplicate, String.reduceEq, ha7, ha8, ha9])
  refine DCalls.fzA a9 (by simp [upd, ha7, ha8, ha9]) ?_
  (try simp (disch := omega) only [go_sem, Nat.reduceEqDiff, Nat.reduceAdd, Nat.reduceMul, Nat.reduceSub, Nat.reduceLeDiff, ↓reduceIte, reduceCtorEq, Int.reduceAdd, Int.reduceSub, Int.reduceMul, Int.reduceNeg, Int.reduceToNat, List.reduceReplicate, String.reduceEq, ha7, ha8, ha9])
  refine DCalls.fzA a8 (by simp [upd, ha7, ha8, ha9]) ?_
  (try simp (disch := omega) only [go_sem, Nat.reduceEqDiff, Nat.reduceAdd, Nat.reduceMul, Nat.reduceSub, Nat.reduceLeDiff, ↓reduceIte, reduceCtorEq, Int.reduceAdd, Int.reduceSub, Int.reduceMul, Int.reduceNeg, Int.reduceToNat, List.reduceReplicate, String.reduceEq, ha7, ha8, ha9])
  refine DCalls.fzA a7 (by simp [upd, ha7, ha8, ha9]) ?_
  (try simp (disch := omega) only [go_sem, Nat.reduceEqDiff, Nat.reduceAdd, Nat.reduceMul, Nat.reduceSub, Nat.reduceLeDiff, ↓reduceIte, reduceCtorEq, Int.reduceAdd, Int.reduceSub, Int.reduceMul, Int.reduceNeg, Int.reduceToNat, List.reduceReplicate, String.reduceEq, ha7, ha8, ha9])
  refine (fsame_spec G hG ⟨true, 4, [[3, 5], [1]]⟩ ⟨true, 4, [[3, 5], [1]]⟩ _ (by decide) (by decide) (by decide) (by decide)).mono ?_
  rintro _ H ⟨rfl, rfl⟩
  simp (disch := omega) only [go_sem, Nat.reduceEqDiff, Nat.reduceAdd, Nat.reduceMul, Nat.reduceSub, Nat.reduceLeDiff, ↓reduceIte, reduceCtorEq, Int.reduceAdd, Int.reduceSub, Int.reduceMul, Int.reduceNeg, Int.reduceToNat, List.reduceReplicate, String.reduceEq, hc1, hc2, hc4, hc5, hc7, hc8, hc10, hc12, hc14]
  (intro a10 ha10; dsimp only at ha10; try simp only [upd_eq_none] at ha10)
  (try simp (disch := omega) only [go_sem, Nat.reduceEqDiff, Nat.reduceAdd, Nat.reduceMul, Nat.reduceSub, Nat.reduceLeDiff, ↓reduceIte, reduceCtorEq, Int.reduceAdd, Int.reduceSub, Int.reduceMul, Int.reduceNeg, Int.reduceToNat, List.reduceReplicate, String.reduceEq, ha10])
  refine DCalls.fzA a10 (by simp [upd, ha10]) ?_
  (try simp (disch := omega) only [go_sem, Nat.reduceEqDiff, Nat.reduceAdd, Nat.reduceMul, Nat.reduceSub, Nat.reduceLeDiff, ↓reduceIte, reduceCtorEq, Int.reduceAdd, Int.reduceSub, Int.reduceMul, Int.reduceNeg, Int.reduceToNat, List.reduceReplicate, String.reduceEq, ha10])
  refine (active_spec G 3 [5, 1] _ (by decide)).mono ?_
  rintro _ H ⟨rfl, rfl⟩
  rw [show activeL 3 [5, 1] = 5 by decide]
  simp (disch := omega) only [go_sem, Nat.reduceEqDiff, Nat.reduceAdd, Nat.reduceMul, Nat.reduceSub, Nat.reduceLeDiff, ↓reduceIte, reduceCtorEq, Int.reduceAdd, Int.reduceSub, Int.reduceMul, Int.reduceNeg, Int.reduceToNat, List.reduceReplicate, String.reduceEq, hc1, hc2, hc4, hc5, hc7, hc8, hc10, hc12, hc14]
  have n1 : H c1 = none := (by have h := hc1; repeat (first | exact h | replace h := h.2))
  have n2 : H c2 = none := (by have h := hc2; repeat (first | exact h | replace h := h.2))
  have n4 : H c4 = none := (by have h := hc4; repeat (first | exact h | replace h := h.2))
  have n5 : H c5 = none := (by have h := hc5; repeat (first | exact h | replace h := h.2))
  have n7 : H c7 = none := (by have h := hc7; repeat (first | exact h | replace h := h.2))
  have n8 : H c8 = none := (by have h := hc8; repeat (first | exact h | replace h := h.2))
  have n10 : H c10 = none := (by have h := hc10; repeat (first | exact h | replace h := h.2))
  have n12 : H c12 = none := (by have h := hc12; repeat (first | exact h | replace h := h.2))
  have n14 : H c14 = none := (by have h := hc14; repeat (first | exact h | replace h := h.2))
  exact DFin.sub (by repeat (first | assumption | exact sub_refl _ | refine sub_upd ?_ (by assumption) _)) (DFin.refl ⟨rfl, rfl⟩)
end Go.Dl

-- A copy of lists, over rows of the call's own.
namespace Go.Dl
open Go Go.Proofs
set_option maxRecDepth 10000

theorem copy_ll (G : Nat → DVal) (q : List (List Int)) (H : DHeap) (hq : q.length ≤ 1099511627776) (hl : ∀ l ∈ q, l.length ≤ 1099511627776) :
    DCalls Try.prog G 38 [dIss q, dI (-1), .nilSlice] H fun x H' => ∃ u, x = .ret u ∧ OwnLL 3 37 H q u H' := by
  refine dcalls_intro Try.func38 Try.call38 rfl (by kernel_rfl) ?_
  simp (disch := omega) only [go_sem, Nat.reduceEqDiff, Nat.reduceAdd, Nat.reduceMul, Nat.reduceSub, Nat.reduceLeDiff, ↓reduceIte, reduceCtorEq, Int.reduceAdd, Int.reduceSub, Int.reduceMul, Int.reduceNeg, Int.reduceToNat, List.reduceReplicate, String.reduceEq]
  obtain ⟨I, hI⟩ : ∃ I : Nat → (Nat → DVal) → DHeap → Prop, ∀ k env heap, I k env heap ↔ (env 0 = dIss q ∧ env 1 = dI (-1) ∧ env 8 = dI k ∧ k ≤ q.length ∧ ∃ vs H1, OwnRows 3 H (q.take k) vs H1 ∧ OwnA H1 37 1 k vs (env 7) heap) := ⟨_, fun _ _ _ => Iff.rfl⟩
  refine DLoop.run I (fun k => q.length - k) 0 ((hI _ _ _).2 ?_) ?_
  · simp (disch := omega) only [go_sem, Nat.reduceEqDiff, Nat.reduceAdd, Nat.reduceMul, Nat.reduceSub, Nat.reduceLeDiff, ↓reduceIte, reduceCtorEq, Int.reduceAdd, Int.reduceSub, Int.reduceMul, Int.reduceNeg, Int.reduceToNat, List.reduceReplicate, String.reduceEq]
    (repeat' apply And.intro) <;> (try first | rfl | assumption | omega)
    exact ⟨[], H, ⟨rfl, rfl⟩, .nil _ _ _⟩
  · intro k env heap hk
    obtain ⟨h0, h1, h8, hk, vs, H1, hrows, hv⟩ := (hI _ _ _).1 hk
    by_cases hlt : k < q.length
    · have hst : q.take (k + 1) = q.take k ++ [q[k]] := by rw [List.take_add_one, List.getElem?_eq_getElem hlt]; rfl
      have hlk := hl _ (List.getElem_mem hlt)
      have hne : ¬ ((k : Int) = -1) := by omega
      simp (disch := omega) only [go_sem, Nat.reduceEqDiff, Nat.reduceAdd, Nat.reduceMul, Nat.reduceSub, Nat.reduceLeDiff, ↓reduceIte, reduceCtorEq, Int.reduceAdd, Int.reduceSub, Int.reduceMul, Int.reduceNeg, Int.reduceToNat, List.reduceReplicate, String.reduceEq, h0, h1, h8, hne]
      intro ra hra; dsimp only at hra
      by_cases hz : q[k].length = 0
      · have hz' : q[k] = [] := List.length_eq_zero_iff.1 hz
        simp (disch := omega) only [go_sem, Nat.reduceEqDiff, Nat.reduceAdd, Nat.reduceMul, Nat.reduceSub, Nat.reduceLeDiff, ↓reduceIte, reduceCtorEq, Int.reduceAdd, Int.reduceSub, Int.reduceMul, Int.reduceNeg, Int.reduceToNat, List.reduceReplicate, String.reduceEq, h0, h1, h8, hz']
        intro rc hrc; dsimp only at hrc
        simp (disch := omega) only [go_sem, Nat.reduceEqDiff, Nat.reduceAdd, Nat.reduceMul, Nat.reduceSub, Nat.reduceLeDiff, ↓reduceIte, reduceCtorEq, Int.reduceAdd, Int.reduceSub, Int.reduceMul, Int.reduceNeg, Int.reduceToNat, List.reduceReplicate, String.reduceEq]
        obtain ⟨hv1, hx⟩ := hv.frame hra (.cells [] 3)
        obtain ⟨hv2, hc⟩ := hv1.frame hrc (.cells [.oslice 1 ra 0 0 0] 37)
        refine hv2.append (m := 1) rfl (by omega) fun v' H' h' => ?_
        simp (disch := omega) only [go_sem, Nat.reduceEqDiff, Nat.reduceAdd, Nat.reduceMul, Nat.reduceSub, Nat.reduceLeDiff, ↓reduceIte, reduceCtorEq, Int.reduceAdd, Int.reduceSub, Int.reduceMul, Int.reduceNeg, Int.reduceToNat, List.reduceReplicate, String.reduceEq, h0, h1, h8]
        refine ⟨k + 1, _, GhostS.drop _ rc, (hI _ _ _).2 ?_, by omega⟩
        simp (disch := omega) only [go_sem, Nat.reduceEqDiff, Nat.reduceAdd, Nat.reduceMul, Nat.reduceSub, Nat.reduceLeDiff, ↓reduceIte, reduceCtorEq, Int.reduceAdd, Int.reduceSub, Int.reduceMul, Int.reduceNeg, Int.reduceToNat, List.reduceReplicate, String.reduceEq, h0, h1, h8]
        (repeat' apply And.intro) <;> (try first | rfl | assumption | omega)
        refine ⟨_, _, ?_, h'.unframe hc⟩
        rw [hst, hz']
        exact hrows.snoc (.inr ⟨ra, [], 0, [], hx, rfl, rfl, rfl⟩)
      · simp (disch := omega) only [go_sem, Nat.reduceEqDiff, Nat.reduceAdd, Nat.reduceMul, Nat.reduceSub, Nat.reduceLeDiff, ↓reduceIte, reduceCtorEq, Int.reduceAdd, Int.reduceSub, Int.reduceMul, Int.reduceNeg, Int.reduceToNat, List.reduceReplicate, String.reduceEq, h0, h1, h8]
        intro r' hr'
        replace hr' : heap r' = none := by
          by_cases e : r' = ra
          · subst e; exact hra
          · simpa [e] using hr'
        rw [upd_self hra]
        intro rc hrc; dsimp only at hrc
        simp (disch := omega) only [go_sem, Nat.reduceEqDiff, Nat.reduceAdd, Nat.reduceMul, Nat.reduceSub, Nat.reduceLeDiff, ↓reduceIte, reduceCtorEq, Int.reduceAdd, Int.reduceSub, Int.reduceMul, Int.reduceNeg, Int.reduceToNat, List.reduceReplicate, String.reduceEq]
        obtain ⟨hv1, hx⟩ := hv.frame hr' (.cells (q[k].map dI) 3)
        obtain ⟨hv2, hc⟩ := hv1.frame hrc (.cells [.oslice 1 r' 0 q[k].length q[k].length] 37)
        refine hv2.append (m := 1) rfl (by omega) fun v' H' h' => ?_
        simp (disch := omega) only [go_sem, Nat.reduceEqDiff, Nat.reduceAdd, Nat.reduceMul, Nat.reduceSub, Nat.reduceLeDiff, ↓reduceIte, reduceCtorEq, Int.reduceAdd, Int.reduceSub, Int.reduceMul, Int.reduceNeg, Int.reduceToNat, List.reduceReplicate, String.reduceEq, h0, h1, h8]
        refine ⟨k + 1, _, GhostS.drop _ rc, (hI _ _ _).2 ?_, by omega⟩
        simp (disch := omega) only [go_sem, Nat.reduceEqDiff, Nat.reduceAdd, Nat.reduceMul, Nat.reduceSub, Nat.reduceLeDiff, ↓reduceIte, reduceCtorEq, Int.reduceAdd, Int.reduceSub, Int.reduceMul, Int.reduceNeg, Int.reduceToNat, List.reduceReplicate, String.reduceEq, h0, h1, h8]
        (repeat' apply And.intro) <;> (try first | rfl | assumption | omega)
        refine ⟨_, _, ?_, h'.unframe hc⟩
        rw [hst]
        exact hrows.snoc (.inr ⟨r', [], q[k].length, [], hx, rfl, by simp, by simp⟩)
    · simp (disch := omega) only [go_sem, Nat.reduceEqDiff, Nat.reduceAdd, Nat.reduceMul, Nat.reduceSub, Nat.reduceLeDiff, ↓reduceIte, reduceCtorEq, Int.reduceAdd, Int.reduceSub, Int.reduceMul, Int.reduceNeg, Int.reduceToNat, List.reduceReplicate, String.reduceEq, h0, h1, h8]
      have hkq : k = q.length := by omega
      subst hkq
      rw [List.take_length] at hrows
      rcases hv with ⟨h0, rfl, hv, rfl⟩ | ⟨r, hr, hlen, hv, rfl⟩
      · have : q = [] := List.length_eq_zero_iff.1 h0
        subst this
        rw [hv]
        exact DFin.refl ⟨_, rfl, .inl ⟨rfl, rfl, hrows.2⟩⟩
      · rw [hv]
        exact DFin.refl ⟨_, rfl, .inr ⟨r, vs, H1, hrows, hr, rfl, rfl⟩⟩
end Go.Dl

-- LockReleases: what a release comes to.
namespace Go.Dl
open Go Go.Proofs
set_option maxRecDepth 10000
set_option maxHeartbeats 4000000

theorem release_may {q : List (List Int)} {o : List Bool} (hm : mayQ q = true) : mayS (releaseL q o).1 = true ∧ (releaseL q o).1.q.length = q.length := by
  unfold releaseL
  cases hp : openP q o with
  | none => exact ⟨by simp [mayS, hm], rfl⟩
  | some p =>
    obtain ⟨l, h1, h2, h3⟩ := openP_first hp
    have hlt := (List.getElem?_eq_some_iff.1 h1).1
    have hqe : q[p.1] = p.2 :: l := (List.getElem?_eq_some_iff.1 h1).2
    have hg : q.getD p.1 [] = p.2 :: l := by rw [List.getD_eq_getElem?_getD, h1]; rfl
    have ht : (takeL q p.1).1 = q.set p.1 l := by rw [takeL_eq hm, if_neg (by omega), hg]
    have hu : p.2 ∈ q[p.1] := by rw [hqe]; exact List.mem_cons_self
    have hmq' := mayQ_part hm hlt (l := l) (by rw [hqe]; exact List.sublist_cons_self _ _)
    have hnd := mayQ_rowNodup hm hlt
    have hul : p.2 ∉ l := by rw [hqe] at hnd; exact (List.nodup_cons.1 hnd).1
    have hpm := part_mem hm hlt hu (l := l) fun x => by
      rw [hqe, List.mem_cons]
      exact ⟨fun h => ⟨.inr h, fun e => hul (e ▸ h)⟩, fun h => h.1.resolve_left h.2⟩
    have hr := mayQ_range hm (mem_flat.2 ⟨p.1, by rw [hg]; exact List.mem_cons_self⟩)
    have hn : p.2 ∉ (q.set p.1 l).flatten := fun h => by
      obtain ⟨e, he⟩ := mem_flat.1 h
      exact ((hpm _ _).1 he).2 rfl
    refine ⟨?_, by simp [ht]⟩
    simp only [mayS, ht, hmq', Bool.true_and, if_true, isTask, decide_eq_true hr, decide_eq_false hn, Bool.not_false]
theorem takeL_first {q : List (List Int)} {o : List Bool} {p : Nat × Int} (hm : mayQ q = true) (h : openP q o = some p) : ∃ l, ∃ hlt : p.1 < q.length, q[p.1] = p.2 :: l ∧ (takeL q p.1).1 = q.set p.1 l ∧ o.getD p.1 false = true ∧ ∀ j, j < p.1 → o.getD j false = true → q.getD j [] = [] := by
  obtain ⟨l, h1, h2, h3⟩ := openP_first h
  have hlt := (List.getElem?_eq_some_iff.1 h1).1
  have hqe : q[p.1] = p.2 :: l := (List.getElem?_eq_some_iff.1 h1).2
  have hg : q.getD p.1 [] = p.2 :: l := by rw [List.getD_eq_getElem?_getD, h1]; rfl
  exact ⟨l, hlt, hqe, by rw [takeL_eq hm, if_neg (by omega), hg], h2, h3⟩
theorem openP_no {q : List (List Int)} {o : List Bool} (h : openP q o = none) : ∀ j, o.getD j false = true → q.getD j [] = [] := fun j hj => by
  cases hr : q.getD j [] with
  | nil => rfl
  | cons u l =>
    have hlt : j < q.length := by
      rcases Nat.lt_or_ge j q.length with h1 | h1
      · exact h1
      · simp [h1] at hr
    have hqe : q[j] = u :: l := by
      rw [List.getD_eq_getElem?_getD, List.getElem?_eq_getElem hlt] at hr; exact hr
    unfold openP at h
    rw [List.find?_eq_none] at h
    have hmem : (j, u) ∈ clp 0 q := by
      have : ∀ (s : Nat) (q : List (List Int)) (j : Nat) (hlt : j < q.length), u ∈ q[j] → (s + j, u) ∈ clp s q := by
        intro s q
        induction q generalizing s with
        | nil => intro j hlt; simp at hlt
        | cons m q ih =>
          intro j hlt hu
          cases j with
          | zero => simp only [clp, List.mem_append, List.mem_map]; exact .inl ⟨u, hu, rfl⟩
          | succ j =>
            simp only [clp, List.mem_append]
            have := ih (s + 1) j (by simpa using hlt) (by simpa using hu)
            rw [show s + 1 + j = s + (j + 1) by omega] at this
            exact .inr this
      have := this 0 q j hlt (by rw [hqe]; exact List.mem_cons_self)
      rwa [Nat.zero_add] at this
    exact absurd hj (h _ hmem)

theorem equal_lent (G : Nat → DVal) (a b : List Int) (v : DVal) (H : DHeap) (hv : ViewsR H v b) (ha : a.length ≤ 1099511627776) (hb : b.length ≤ 1099511627776) : DCalls Try.prog G 32 [dIs a, v] H (DRet (.bool (decide (a = b))) H) :=
  (equal_spec G a b h0 ha hb).lent (fun w vs hw hx => by
    simp only [RelL] at hx ⊢
    obtain ⟨y, ys, rfl, k1, z, zs, rfl, k2, k3⟩ := hx
    exact ⟨y, _, rfl, Rel.lasts (lasts_h0 _ w) _ _ k1, z, zs, rfl, hv w z hw k2, k3⟩) rfl
end Go.Dl

-- LockReleases: the walk.
namespace Go.Dl
open Go Go.Proofs
set_option maxRecDepth 10000
set_option maxHeartbeats 4000000

/-- What a round keeps: the state's box, the two ways. -/
def LR (r3 r25 : Nat) (ow : Int) (q : List (List Int)) (H heap : DHeap) : Prop :=
  heap r3 = some (.cells [.bool true, dI ow, dIss q] 61) ∧ heap r25 = some (.cells [.bool false, .bool true] 4) ∧ ∀ b o, H b = some o → heap b = some o

/-- The lists that are compared with: rows of the call's own. -/
def UOk (q : List (List Int)) (u : DVal) (Hc : DHeap) : Prop :=
  (q = [] ∧ u = .nilSlice) ∨ ∃ rm vs B H5, u = .oslice 1 rm 0 q.length q.length ∧ Hc rm = some (.cells vs 37) ∧ OwnRows 3 B q vs H5 ∧ ∀ b o, H5 b = some o → Hc b = some o
theorem OwnLL.uok {H Hc : DHeap} {q : List (List Int)} {u : DVal} (h : OwnLL 3 37 H q u Hc) : UOk q u Hc := by
  rcases h with ⟨h1, h2, _⟩ | ⟨rm, vs, H5, h1, h2, h3, rfl⟩
  · exact .inl ⟨h1, h2⟩
  · exact .inr ⟨rm, vs, H, H5, h3, upd_same _ _ _, h1, sub_upd (sub_refl _) h2 _⟩
theorem UOk.up {q : List (List Int)} {u : DVal} {Hc Hd : DHeap} (h : UOk q u Hc) (hs : ∀ b o, Hc b = some o → Hd b = some o) : UOk q u Hd := by
  rcases h with h | ⟨rm, vs, B, H5, h1, h2, h3, h4⟩
  · exact .inl h
  · exact .inr ⟨rm, vs, B, H5, h1, hs _ _ h2, h3, fun b o hb => hs _ _ (h4 b o hb)⟩
theorem UOk.len {q : List (List Int)} {u : DVal} {Hc : DHeap} (h : UOk q u Hc) (e : TypeId) (dst : Option Nat) (K : DK) (st : DS) : dLen dst (some (.slice e)) u K st = dput dst (dI q.length) K st := by
  rcases h with ⟨h1, rfl⟩ | ⟨rm, vs, B, H5, rfl, _⟩
  · rw [h1]; rfl
  · rfl
/-- Row i. -/
theorem UOk.row {q : List (List Int)} {Hc : DHeap} {vs : List DVal} {B H5 : DHeap} (h3 : OwnRows 3 B q vs H5) (h4 : ∀ b o, H5 b = some o → Hc b = some o) {i : Nat} (hi : i < q.length) :
    ∃ v, vs[i]? = some v ∧ ViewsR Hc v q[i] ∧ (∀ dst K st, dLen dst (some (.slice 3)) v K st = dput dst (dI q[i].length) K st) ∧ ∀ x l, q[i] = x :: l → ∃ r off lo cs, v = .oslice 1 r off (l.length + 1) (lo + 1) ∧ Hc r = some (.cells cs 3) ∧ cs[off]? = some (dI x) ∧ l.length ≤ lo ∧ ViewsR Hc (.oslice 1 r (off + 1) l.length lo) l := by
  obtain ⟨v, hv, hvr, hv2⟩ := rows_get h3 hi
  refine ⟨v, hv, hvr.up h4, fun dst K st => ?_, fun x l hx => ?_⟩
  · rcases hv2 with ⟨h1, rfl⟩ | ⟨r, off, lo, rfl⟩
    · rw [h1]; rfl
    · rfl
  · obtain ⟨r, off, lo, cs, g1, g2, g3, g4, g5, g6⟩ := rows_front h3 hi hx (Disj.h0 H5)
    rw [over_h0] at g2
    rw [hv] at g1
    cases g1
    obtain ⟨v2, m1, m2, _⟩ := rows_get g5 (n := i) (by simpa using hi)
    have hlt : i < vs.length := by rw [h3.len]; exact hi
    rw [List.getElem?_set_self hlt] at m1
    cases m1
    refine ⟨r, off, lo, cs, rfl, h4 _ _ g2, g3, g4, ?_⟩
    have := m2.up h4
    simpa using this

theorem heap_eq {F : DHeap → Prop} {H H' : DHeap} (h : H = H') (k : F H') : F H := h ▸ k
theorem lockReleases_spec (G : Nat → DVal) (hG : ∀ g, ∃ r o, G g = .optr r o) (s : PS) (n : Int) (o : List Bool) (H : DHeap) (hq : s.q.length ≤ 1099511627776) (hb : s.q.flatten.length ≤ 1099511627776) (hl : ∀ l ∈ s.q, l.length ≤ 1099511627776) (ho : o.length ≤ 1099511627776) :
    DCalls Try.prog G 7 [dPS s, dI n, dBs o] H (DRet (.bool true) H) := by
  obtain ⟨lo, ow, q⟩ := s
  dsimp only at hq hb hl
  refine dcalls_intro Try.func7 Try.call7 rfl (by kernel_rfl) ?_
  simp (disch := omega) only [go_sem, Nat.reduceEqDiff, Nat.reduceAdd, Nat.reduceMul, Nat.reduceSub, Nat.reduceLeDiff, ↓reduceIte, reduceCtorEq, Int.reduceAdd, Int.reduceSub, Int.reduceMul, Int.reduceNeg, Int.reduceToNat, List.reduceReplicate, String.reduceEq, dBs]
  intro r3 h3; dsimp only at h3
  simp (disch := omega) only [go_sem, Nat.reduceEqDiff, Nat.reduceAdd, Nat.reduceMul, Nat.reduceSub, Nat.reduceLeDiff, ↓reduceIte, reduceCtorEq, Int.reduceAdd, Int.reduceSub, Int.reduceMul, Int.reduceNeg, Int.reduceToNat, List.reduceReplicate, String.reduceEq]
  refine (rlmay_spec G ⟨lo, ow, q⟩ _ hq hb hl).mono ?_
  rintro _ H1 ⟨rfl, rfl⟩
  cases hm : mayS ⟨lo, ow, q⟩ with
  | false =>
    simp (disch := omega) only [go_sem, Nat.reduceEqDiff, Nat.reduceAdd, Nat.reduceMul, Nat.reduceSub, Nat.reduceLeDiff, ↓reduceIte, reduceCtorEq, Int.reduceAdd, Int.reduceSub, Int.reduceMul, Int.reduceNeg, Int.reduceToNat, List.reduceReplicate, String.reduceEq]
    refine (awake32_spec G hG _).mono ?_
    rintro _ H9 ⟨rfl, rfl⟩
    simp (disch := omega) only [go_sem, Nat.reduceEqDiff, Nat.reduceAdd, Nat.reduceMul, Nat.reduceSub, Nat.reduceLeDiff, ↓reduceIte, reduceCtorEq, Int.reduceAdd, Int.reduceSub, Int.reduceMul, Int.reduceNeg, Int.reduceToNat, List.reduceReplicate, String.reduceEq]
    exact DFin.dropA r3 h3 (DFin.refl ⟨rfl, rfl⟩)
  | true =>
    cases lo with
    | false =>
      simp (disch := omega) only [go_sem, Nat.reduceEqDiff, Nat.reduceAdd, Nat.reduceMul, Nat.reduceSub, Nat.reduceLeDiff, ↓reduceIte, reduceCtorEq, Int.reduceAdd, Int.reduceSub, Int.reduceMul, Int.reduceNeg, Int.reduceToNat, List.reduceReplicate, String.reduceEq]
      refine (awake32_spec G hG _).mono ?_
      rintro _ H9 ⟨rfl, rfl⟩
      simp (disch := omega) only [go_sem, Nat.reduceEqDiff, Nat.reduceAdd, Nat.reduceMul, Nat.reduceSub, Nat.reduceLeDiff, ↓reduceIte, reduceCtorEq, Int.reduceAdd, Int.reduceSub, Int.reduceMul, Int.reduceNeg, Int.reduceToNat, List.reduceReplicate, String.reduceEq]
      exact DFin.dropA r3 h3 (DFin.refl ⟨rfl, rfl⟩)
    | true =>
      obtain ⟨hmq, how, hown⟩ := mayS_locked hm rfl
      dsimp only at hmq how hown
      simp (disch := omega) only [go_sem, Nat.reduceEqDiff, Nat.reduceAdd, Nat.reduceMul, Nat.reduceSub, Nat.reduceLeDiff, ↓reduceIte, reduceCtorEq, Int.reduceAdd, Int.reduceSub, Int.reduceMul, Int.reduceNeg, Int.reduceToNat, List.reduceReplicate, String.reduceEq]
      intro r25 h25; dsimp only at h25
      rw [upd_eq_none] at h25
      simp (disch := omega) only [go_sem, Nat.reduceEqDiff, Nat.reduceAdd, Nat.reduceMul, Nat.reduceSub, Nat.reduceLeDiff, ↓reduceIte, reduceCtorEq, Int.reduceAdd, Int.reduceSub, Int.reduceMul, Int.reduceNeg, Int.reduceToNat, List.reduceReplicate, String.reduceEq]
      obtain ⟨I, hI⟩ : ∃ I : Nat → (Nat → DVal) → DHeap → Prop, ∀ k env heap, I k env heap ↔ (env 1 = dI n ∧ env 2 = dBs o ∧ env 3 = .optr r3 0 ∧ env 25 = .oslice 1 r25 0 2 2 ∧ env 26 = dI 2 ∧ env 27 = dI k ∧ k ≤ 2 ∧ LR r3 r25 ow q H heap) := ⟨_, fun _ _ _ => Iff.rfl⟩
      refine DLoop.run I (fun k => 2 - k) 0 ((hI _ _ _).2 ?_) ?_
      · simp (disch := omega) only [go_sem, Nat.reduceEqDiff, Nat.reduceAdd, Nat.reduceMul, Nat.reduceSub, Nat.reduceLeDiff, ↓reduceIte, reduceCtorEq, Int.reduceAdd, Int.reduceSub, Int.reduceMul, Int.reduceNeg, Int.reduceToNat, List.reduceReplicate, String.reduceEq, dBs]
        have h25' := h25.2.2
        (repeat' apply And.intro) <;> (try first | rfl | assumption | omega)
        · simp [upd, h25, dIss]
        · simp [upd]
        · exact (by repeat (first | assumption | exact sub_refl _ | refine sub_upd ?_ (by assumption) _))
      · intro k env heap hk
        obtain ⟨g1, g2, g3, g25, g26, g27, hk2, j3, j25, hsub⟩ := (hI _ _ _).1 hk
        have hll := fun l h => mayQ_row hmq (l := l) h
        have hql := mayQ_len hmq
        rcases (by omega : k = 0 ∨ k = 1 ∨ k = 2) with rfl | rfl | rfl
        · simp (disch := omega) only [go_sem, Nat.reduceEqDiff, Nat.reduceAdd, Nat.reduceMul, Nat.reduceSub, Nat.reduceLeDiff, ↓reduceIte, reduceCtorEq, Int.reduceAdd, Int.reduceSub, Int.reduceMul, Int.reduceNeg, Int.reduceToNat, List.reduceReplicate, String.reduceEq, g1, g2, g3, g25, g26, g27, j3, j25]
          refine (copy_ll G q _ hq hl).mono ?_
          rintro _ H1 ⟨u, rfl, hu⟩
          have i3 := hu.sub _ _ j3
          simp (disch := omega) only [go_sem, Nat.reduceEqDiff, Nat.reduceAdd, Nat.reduceMul, Nat.reduceSub, Nat.reduceLeDiff, ↓reduceIte, reduceCtorEq, Int.reduceAdd, Int.reduceSub, Int.reduceMul, Int.reduceNeg, Int.reduceToNat, List.reduceReplicate, String.reduceEq]
          intro r10 h10; dsimp only at h10
          have e3 : r3 ≠ r10 := none_ne h10 i3
          simp (disch := omega) only [go_sem, Nat.reduceEqDiff, Nat.reduceAdd, Nat.reduceMul, Nat.reduceSub, Nat.reduceLeDiff, ↓reduceIte, reduceCtorEq, Int.reduceAdd, Int.reduceSub, Int.reduceMul, Int.reduceNeg, Int.reduceToNat, List.reduceReplicate, String.reduceEq]
          intro r11 h11; dsimp only at h11
          rw [upd_eq_none] at h11
          have f3 : r3 ≠ r11 := none_ne h11.2.2 i3
          simp (disch := omega) only [go_sem, Nat.reduceEqDiff, Nat.reduceAdd, Nat.reduceMul, Nat.reduceSub, Nat.reduceLeDiff, ↓reduceIte, reduceCtorEq, Int.reduceAdd, Int.reduceSub, Int.reduceMul, Int.reduceNeg, Int.reduceToNat, List.reduceReplicate, String.reduceEq, g1, g2, g3, g25, g26, g27, i3, e3, f3, h11]
          refine (OwnR2.frozen (end_spec G ⟨true, ow, q⟩ o _ hq hl ho)).mono ?_
          rintro _ H2 ⟨rfl, hH2⟩
          rw [show endL ⟨true, ow, q⟩ o = ((releaseL q o).1, (releaseL q o).2, 0) by simp [endL, hm, finishL]]
          have a10 : H2 r10 = some (.cells [.bool false, dI 0, .nilSlice] 61) := by rw [hH2]; simp [upd, h11.2.1]
          have a11 : H2 r11 = some (.cells [.bool false, dI 0, dI 0] 65) := by rw [hH2]; simp [upd]
          simp (disch := omega) only [go_sem, Nat.reduceEqDiff, Nat.reduceAdd, Nat.reduceMul, Nat.reduceSub, Nat.reduceLeDiff, ↓reduceIte, reduceCtorEq, Int.reduceAdd, Int.reduceSub, Int.reduceMul, Int.reduceNeg, Int.reduceToNat, List.reduceReplicate, String.reduceEq, dR2, dH, g1, g2, g3, g25, g26, g27, a10, a11, h11]
          obtain ⟨hrm, hrl⟩ := release_may (o := o) hmq
          have hrq := mayS_q hrm
          refine (rlmay_spec G (releaseL q o).1 _ (by omega) (by have := mayQ_flat hrq; omega) (fun l h => by have := mayQ_row hrq h; omega)).mono ?_
          rintro _ Hc ⟨rfl, hHc⟩
          have hHc1 := h11.2.2
          have up : ∀ b ob, H1 b = some ob → Hc b = some ob := by
            rw [hHc, hH2]
            exact sub_upd (sub_upd (sub_upd (sub_upd (sub_refl H1) h10 _) hHc1 _) h10 _) hHc1 _
          have c10 : Hc r10 = some (.cells [.bool (releaseL q o).1.locked, dI (releaseL q o).1.owner, dIss (releaseL q o).1.q] 61) := by rw [hHc]; simp [upd, h11.2.1]; rfl
          have c11 : Hc r11 = some (.cells [.bool (releaseL q o).2.1, dI (releaseL q o).2.2.1, dI (releaseL q o).2.2.2] 65) := by rw [hHc]; simp [upd]
          have c3 := up _ _ i3
          have c25 := up _ _ (hu.sub _ _ j25)
          have csb : ∀ b ob, H b = some ob → Hc b = some ob := fun b ob hb => up _ _ (hu.sub _ _ (hsub b ob hb))
          have cu := hu.uok.up up

          clear hHc hH2 a10 a11 up hu i3 e3 f3 j3 j25 hk
          rw [hrm]
          have hlen := cu.len
          have hmq1 := hmq
          cases hp : openP q o with
          | none =>
            rw [show releaseL q o = (⟨false, 0, q⟩, false, 0, 0) by simp [releaseL, hp]] at c10 c11 ⊢
            dsimp only at c10 c11
            simp (disch := omega) only [go_sem, Nat.reduceEqDiff, Nat.reduceAdd, Nat.reduceMul, Nat.reduceSub, Nat.reduceLeDiff, ↓reduceIte, reduceCtorEq, Int.reduceAdd, Int.reduceSub, Int.reduceMul, Int.reduceNeg, Int.reduceToNat, List.reduceReplicate, String.reduceEq, dR2, dH, g1, g2, g3, g25, g26, g27, c10, c11, h11, hlen]
            obtain ⟨J, hJ⟩ : ∃ J : Nat → (Nat → DVal) → DHeap → Prop, ∀ i env heap, J i env heap ↔ (env 1 = dI n ∧ env 2 = dBs o ∧ env 3 = .optr r3 0 ∧ env 9 = u ∧ env 10 = .optr r10 0 ∧ env 11 = .optr r11 0 ∧ env 25 = .oslice 1 r25 0 2 2 ∧ env 26 = dI 2 ∧ env 27 = dI (0 : Nat) ∧ env 98 = u ∧ env 99 = dI q.length ∧ env 100 = dI i ∧ i ≤ q.length ∧ heap = Hc) := ⟨_, fun _ _ _ => Iff.rfl⟩
            refine DLoop.run J (fun i => q.length - i) 0 ((hJ _ _ _).2 ?_) ?_
            · simp (disch := omega) only [go_sem, Nat.reduceEqDiff, Nat.reduceAdd, Nat.reduceMul, Nat.reduceSub, Nat.reduceLeDiff, ↓reduceIte, reduceCtorEq, Int.reduceAdd, Int.reduceSub, Int.reduceMul, Int.reduceNeg, Int.reduceToNat, List.reduceReplicate, String.reduceEq, dBs, g1, g2, g3, g25, g26, g27]
              (repeat' apply And.intro) <;> (try first | rfl | assumption | omega)
            · intro i env heap hi
              obtain ⟨i1, i2, i3, i9, i10, i11, i25, i26, i27, i98, i99, i100, hil, rfl⟩ := (hJ _ _ _).1 hi
              by_cases hlt : i < q.length
              · rcases cu with ⟨hq0, _⟩ | ⟨rm, vs, B, H5, rfl, k1, k2, k3⟩
                · rw [hq0] at hlt; simp at hlt
                obtain ⟨v, hv, hvr, hlv, hfront⟩ := UOk.row k2 k3 hlt
                have hlr := mayQ_row hmq1 (List.getElem_mem hlt)
                have hno := openP_no hp i
                by_cases hio : i < o.length
                · have hoi : (o.map DVal.bool)[i]? = some (.bool o[i]) := by simp [hio]
                  cases hob : o[i] with
                  | false =>
                    rw [hob] at hoi
                    simp (disch := omega) only [go_sem, Nat.reduceEqDiff, Nat.reduceAdd, Nat.reduceMul, Nat.reduceSub, Nat.reduceLeDiff, ↓reduceIte, reduceCtorEq, Int.reduceAdd, Int.reduceSub, Int.reduceMul, Int.reduceNeg, Int.reduceToNat, List.reduceReplicate, String.reduceEq, dH, dBs, g1, g2, g3, g25, g26, g27, i1, i2, i3, i9, i10, i11, i25, i26, i27, i98, i99, i100, c10, c11, c3, c25, k1, hv, hlv, List.length_set, hio, hoi]
                    refine (equal_lent G _ _ _ _ hvr (by first | omega | (simp; done) | (simp; omega)) (by omega)).mono ?_
                    rintro _ H4 ⟨rfl, rfl⟩
                    rw [decide_eq_true (by first | rfl | (rw [hqe]))]
                    simp (disch := omega) only [go_sem, Nat.reduceEqDiff, Nat.reduceAdd, Nat.reduceMul, Nat.reduceSub, Nat.reduceLeDiff, ↓reduceIte, reduceCtorEq, Int.reduceAdd, Int.reduceSub, Int.reduceMul, Int.reduceNeg, Int.reduceToNat, List.reduceReplicate, String.reduceEq, dH, g1, g2, g3, g25, g26, g27, i1, i2, i3, i9, i10, i11, i25, i26, i27, i98, i99, i100]
                    refine ⟨i + 1, _, GhostS.refl _, (hJ _ _ _).2 ?_, by omega⟩
                    simp (disch := omega) only [go_sem, Nat.reduceEqDiff, Nat.reduceAdd, Nat.reduceMul, Nat.reduceSub, Nat.reduceLeDiff, ↓reduceIte, reduceCtorEq, Int.reduceAdd, Int.reduceSub, Int.reduceMul, Int.reduceNeg, Int.reduceToNat, List.reduceReplicate, String.reduceEq, dBs, g1, g2, g3, g25, g26, g27, i1, i2, i3, i9, i10, i11, i25, i26, i27, i98, i99, i100]
                    (repeat' apply And.intro) <;> (try first | rfl | assumption | omega)
                  | true =>
                    rw [hob] at hoi
                    have hqe : q[i] = [] := by have := hno (by simp [hio, hob]); simpa [hlt] using this
                    simp (disch := omega) only [go_sem, Nat.reduceEqDiff, Nat.reduceAdd, Nat.reduceMul, Nat.reduceSub, Nat.reduceLeDiff, ↓reduceIte, reduceCtorEq, Int.reduceAdd, Int.reduceSub, Int.reduceMul, Int.reduceNeg, Int.reduceToNat, List.reduceReplicate, String.reduceEq, dH, dBs, g1, g2, g3, g25, g26, g27, i1, i2, i3, i9, i10, i11, i25, i26, i27, i98, i99, i100, c10, c11, c3, c25, k1, hv, hlv, List.length_set, hio, hoi, hqe]
                    refine (equal_lent G _ _ _ _ hvr (by first | omega | (simp; done) | (simp; omega)) (by omega)).mono ?_
                    rintro _ H4 ⟨rfl, rfl⟩
                    rw [decide_eq_true (by first | rfl | (rw [hqe]))]
                    simp (disch := omega) only [go_sem, Nat.reduceEqDiff, Nat.reduceAdd, Nat.reduceMul, Nat.reduceSub, Nat.reduceLeDiff, ↓reduceIte, reduceCtorEq, Int.reduceAdd, Int.reduceSub, Int.reduceMul, Int.reduceNeg, Int.reduceToNat, List.reduceReplicate, String.reduceEq, dH, g1, g2, g3, g25, g26, g27, i1, i2, i3, i9, i10, i11, i25, i26, i27, i98, i99, i100]
                    refine ⟨i + 1, _, GhostS.refl _, (hJ _ _ _).2 ?_, by omega⟩
                    simp (disch := omega) only [go_sem, Nat.reduceEqDiff, Nat.reduceAdd, Nat.reduceMul, Nat.reduceSub, Nat.reduceLeDiff, ↓reduceIte, reduceCtorEq, Int.reduceAdd, Int.reduceSub, Int.reduceMul, Int.reduceNeg, Int.reduceToNat, List.reduceReplicate, String.reduceEq, dBs, g1, g2, g3, g25, g26, g27, i1, i2, i3, i9, i10, i11, i25, i26, i27, i98, i99, i100]
                    (repeat' apply And.intro) <;> (try first | rfl | assumption | omega)
                · simp (disch := omega) only [go_sem, Nat.reduceEqDiff, Nat.reduceAdd, Nat.reduceMul, Nat.reduceSub, Nat.reduceLeDiff, ↓reduceIte, reduceCtorEq, Int.reduceAdd, Int.reduceSub, Int.reduceMul, Int.reduceNeg, Int.reduceToNat, List.reduceReplicate, String.reduceEq, dH, dBs, g1, g2, g3, g25, g26, g27, i1, i2, i3, i9, i10, i11, i25, i26, i27, i98, i99, i100, c10, c11, c3, c25, k1, hv, hlv, List.length_set, hio]
                  refine (equal_lent G _ _ _ _ hvr (by first | omega | (simp; done) | (simp; omega)) (by omega)).mono ?_
                  rintro _ H4 ⟨rfl, rfl⟩
                  rw [decide_eq_true (by first | rfl | (rw [hqe]))]
                  simp (disch := omega) only [go_sem, Nat.reduceEqDiff, Nat.reduceAdd, Nat.reduceMul, Nat.reduceSub, Nat.reduceLeDiff, ↓reduceIte, reduceCtorEq, Int.reduceAdd, Int.reduceSub, Int.reduceMul, Int.reduceNeg, Int.reduceToNat, List.reduceReplicate, String.reduceEq, dH, g1, g2, g3, g25, g26, g27, i1, i2, i3, i9, i10, i11, i25, i26, i27, i98, i99, i100]
                  refine ⟨i + 1, _, GhostS.refl _, (hJ _ _ _).2 ?_, by omega⟩
                  simp (disch := omega) only [go_sem, Nat.reduceEqDiff, Nat.reduceAdd, Nat.reduceMul, Nat.reduceSub, Nat.reduceLeDiff, ↓reduceIte, reduceCtorEq, Int.reduceAdd, Int.reduceSub, Int.reduceMul, Int.reduceNeg, Int.reduceToNat, List.reduceReplicate, String.reduceEq, dBs, g1, g2, g3, g25, g26, g27, i1, i2, i3, i9, i10, i11, i25, i26, i27, i98, i99, i100]
                  (repeat' apply And.intro) <;> (try first | rfl | assumption | omega)
              · simp (disch := omega) only [go_sem, Nat.reduceEqDiff, Nat.reduceAdd, Nat.reduceMul, Nat.reduceSub, Nat.reduceLeDiff, ↓reduceIte, reduceCtorEq, Int.reduceAdd, Int.reduceSub, Int.reduceMul, Int.reduceNeg, Int.reduceToNat, List.reduceReplicate, String.reduceEq, dBs, g1, g2, g3, g25, g26, g27, i1, i2, i3, i9, i10, i11, i25, i26, i27, i98, i99, i100]
                refine ⟨0 + 1, _, GhostS.refl _, (hI _ _ _).2 ?_, by omega⟩
                simp (disch := omega) only [go_sem, Nat.reduceEqDiff, Nat.reduceAdd, Nat.reduceMul, Nat.reduceSub, Nat.reduceLeDiff, ↓reduceIte, reduceCtorEq, Int.reduceAdd, Int.reduceSub, Int.reduceMul, Int.reduceNeg, Int.reduceToNat, List.reduceReplicate, String.reduceEq, dBs, g1, g2, g3, g25, g26, g27, i1, i2, i3, i9, i10, i11, i25, i26, i27, i98, i99, i100]
                (repeat' apply And.intro) <;> (try first | rfl | assumption | omega)
          | some p =>
            obtain ⟨l, hpl, hpe, hpt, hpo, hpm⟩ := takeL_first hmq1 hp
            obtain ⟨pe, pt⟩ := p
            dsimp only at hpl hpe hpt hpo hpm
            rw [show releaseL q o = ((⟨true, pt, q.set pe l⟩ : PS), true, pt, (pe : Int)) by simp [releaseL, hp, hpt]] at c10 c11 ⊢
            dsimp only at c10 c11
            simp (disch := omega) only [go_sem, Nat.reduceEqDiff, Nat.reduceAdd, Nat.reduceMul, Nat.reduceSub, Nat.reduceLeDiff, ↓reduceIte, reduceCtorEq, Int.reduceAdd, Int.reduceSub, Int.reduceMul, Int.reduceNeg, Int.reduceToNat, List.reduceReplicate, String.reduceEq, dR2, dH, g1, g2, g3, g25, g26, g27, c10, c11, h11, hlen, List.length_set]
            obtain ⟨J, hJ⟩ : ∃ J : Nat → (Nat → DVal) → DHeap → Prop, ∀ i env heap, J i env heap ↔ (env 1 = dI n ∧ env 2 = dBs o ∧ env 3 = .optr r3 0 ∧ env 9 = u ∧ env 10 = .optr r10 0 ∧ env 11 = .optr r11 0 ∧ env 25 = .oslice 1 r25 0 2 2 ∧ env 26 = dI 2 ∧ env 27 = dI (0 : Nat) ∧ env 98 = u ∧ env 99 = dI q.length ∧ env 100 = dI i ∧ i ≤ q.length ∧ heap = Hc) := ⟨_, fun _ _ _ => Iff.rfl⟩
            refine DLoop.run J (fun i => q.length - i) 0 ((hJ _ _ _).2 ?_) ?_
            · simp (disch := omega) only [go_sem, Nat.reduceEqDiff, Nat.reduceAdd, Nat.reduceMul, Nat.reduceSub, Nat.reduceLeDiff, ↓reduceIte, reduceCtorEq, Int.reduceAdd, Int.reduceSub, Int.reduceMul, Int.reduceNeg, Int.reduceToNat, List.reduceReplicate, String.reduceEq, dBs, g1, g2, g3, g25, g26, g27]
              (repeat' apply And.intro) <;> (try first | rfl | assumption | omega)
            · intro i env heap hi
              obtain ⟨i1, i2, i3, i9, i10, i11, i25, i26, i27, i98, i99, i100, hil, rfl⟩ := (hJ _ _ _).1 hi
              by_cases hlt : i < q.length
              · rcases cu with ⟨hq0, _⟩ | ⟨rm, vs, B, H5, rfl, k1, k2, k3⟩
                · rw [hq0] at hlt; simp at hlt
                obtain ⟨v, hv, hvr, hlv, hfront⟩ := UOk.row k2 k3 hlt
                have hlr := mayQ_row hmq1 (List.getElem_mem hlt)
                by_cases hip : i = pe
                · subst hip
                  have hio : i < o.length := by
                    rcases Nat.lt_or_ge i o.length with h1 | h1
                    · exact h1
                    · simp [h1] at hpo
                  have hob : o[i] = true := by simpa [hio] using hpo
                  have hoi : (o.map DVal.bool)[i]? = some (.bool true) := by simp [hio, hob]
                  have hsi : (((q.set i l).map dIs))[i]? = some (dIs l) := by simp [hlt]
                  have hll2 : l.length + 1 ≤ 32 := by rw [hpe] at hlr; simpa using hlr
                  obtain ⟨r, off, lo, cs, rfl, hr, hcs, hlo2, hvr2⟩ := hfront pt l hpe
                  rw [hpe] at hlv
                  simp (disch := omega) only [go_sem, Nat.reduceEqDiff, Nat.reduceAdd, Nat.reduceMul, Nat.reduceSub, Nat.reduceLeDiff, ↓reduceIte, reduceCtorEq, Int.reduceAdd, Int.reduceSub, Int.reduceMul, Int.reduceNeg, Int.reduceToNat, List.reduceReplicate, String.reduceEq, dH, dBs, g1, g2, g3, g25, g26, g27, i1, i2, i3, i9, i10, i11, i25, i26, i27, i98, i99, i100, c10, c11, c3, c25, k1, hv, hlv, List.length_set, hio, hoi, hsi, hr, hcs]
                  refine dwp_draws (by kernel_rfl) (.take 0 (.take 1 (.take 2 (.take 3 (.take 4 (.take 5 (.take 6 (.take 7 (.take 8 (.take 9 (.take 10 (.take 11 (.take 12 (.take 13 (.take 14 (.take 15 (.take 16 .done))))))))))))))))) (by kernel_rfl) ?_
                  simp (disch := omega) only [go_sem, Nat.reduceEqDiff, Nat.reduceAdd, Nat.reduceMul, Nat.reduceSub, Nat.reduceLeDiff, ↓reduceIte, reduceCtorEq, Int.reduceAdd, Int.reduceSub, Int.reduceMul, Int.reduceNeg, Int.reduceToNat, List.reduceReplicate, String.reduceEq, dH, dBs, g1, g2, g3, g25, g26, g27, i1, i2, i3, i9, i10, i11, i25, i26, i27, i98, i99, i100, c10, c11, c3, c25, k1, hv, hlv, List.length_set, hio, hoi, hsi, hr, hcs]
                  refine (equal_lent G _ _ _ _ hvr2 (by first | omega | (simp; done) | (simp; omega)) (by omega)).mono ?_
                  rintro _ H4 ⟨rfl, rfl⟩
                  rw [decide_eq_true (by first | rfl | (rw [hqe]))]
                  simp (disch := omega) only [go_sem, Nat.reduceEqDiff, Nat.reduceAdd, Nat.reduceMul, Nat.reduceSub, Nat.reduceLeDiff, ↓reduceIte, reduceCtorEq, Int.reduceAdd, Int.reduceSub, Int.reduceMul, Int.reduceNeg, Int.reduceToNat, List.reduceReplicate, String.reduceEq, dH, g1, g2, g3, g25, g26, g27, i1, i2, i3, i9, i10, i11, i25, i26, i27, i98, i99, i100]
                  refine ⟨i + 1, _, GhostS.refl _, (hJ _ _ _).2 ?_, by omega⟩
                  simp (disch := omega) only [go_sem, Nat.reduceEqDiff, Nat.reduceAdd, Nat.reduceMul, Nat.reduceSub, Nat.reduceLeDiff, ↓reduceIte, reduceCtorEq, Int.reduceAdd, Int.reduceSub, Int.reduceMul, Int.reduceNeg, Int.reduceToNat, List.reduceReplicate, String.reduceEq, dBs, g1, g2, g3, g25, g26, g27, i1, i2, i3, i9, i10, i11, i25, i26, i27, i98, i99, i100]
                  (repeat' apply And.intro) <;> (try first | rfl | assumption | omega)
                · have hsi : (((q.set pe l).map dIs))[i]? = some (dIs q[i]) := by simp [hlt, Ne.symm hip]
                  have hlg := Nat.lt_or_gt_of_ne hip
                  by_cases hio : i < o.length
                  · have hoi : (o.map DVal.bool)[i]? = some (.bool o[i]) := by simp [hio]
                    cases hob : o[i] with
                    | false =>
                      rw [hob] at hoi
                      rcases hlg with hlg | hlg
                      all_goals
                        simp (disch := omega) only [go_sem, Nat.reduceEqDiff, Nat.reduceAdd, Nat.reduceMul, Nat.reduceSub, Nat.reduceLeDiff, ↓reduceIte, reduceCtorEq, Int.reduceAdd, Int.reduceSub, Int.reduceMul, Int.reduceNeg, Int.reduceToNat, List.reduceReplicate, String.reduceEq, dH, dBs, g1, g2, g3, g25, g26, g27, i1, i2, i3, i9, i10, i11, i25, i26, i27, i98, i99, i100, c10, c11, c3, c25, k1, hv, hlv, List.length_set, hio, hoi, hsi]
                        refine (equal_lent G _ _ _ _ hvr (by first | omega | (simp; done) | (simp; omega)) (by omega)).mono ?_
                        rintro _ H4 ⟨rfl, rfl⟩
                        rw [decide_eq_true (by first | rfl | (rw [hqe]))]
                        simp (disch := omega) only [go_sem, Nat.reduceEqDiff, Nat.reduceAdd, Nat.reduceMul, Nat.reduceSub, Nat.reduceLeDiff, ↓reduceIte, reduceCtorEq, Int.reduceAdd, Int.reduceSub, Int.reduceMul, Int.reduceNeg, Int.reduceToNat, List.reduceReplicate, String.reduceEq, dH, g1, g2, g3, g25, g26, g27, i1, i2, i3, i9, i10, i11, i25, i26, i27, i98, i99, i100]
                        refine ⟨i + 1, _, GhostS.refl _, (hJ _ _ _).2 ?_, by omega⟩
                        simp (disch := omega) only [go_sem, Nat.reduceEqDiff, Nat.reduceAdd, Nat.reduceMul, Nat.reduceSub, Nat.reduceLeDiff, ↓reduceIte, reduceCtorEq, Int.reduceAdd, Int.reduceSub, Int.reduceMul, Int.reduceNeg, Int.reduceToNat, List.reduceReplicate, String.reduceEq, dBs, g1, g2, g3, g25, g26, g27, i1, i2, i3, i9, i10, i11, i25, i26, i27, i98, i99, i100]
                        (repeat' apply And.intro) <;> (try first | rfl | assumption | omega)
                    | true =>
                      rw [hob] at hoi
                      by_cases hqe : q[i] = []
                      · rcases hlg with hlg | hlg
                        all_goals
                          simp (disch := omega) only [go_sem, Nat.reduceEqDiff, Nat.reduceAdd, Nat.reduceMul, Nat.reduceSub, Nat.reduceLeDiff, ↓reduceIte, reduceCtorEq, Int.reduceAdd, Int.reduceSub, Int.reduceMul, Int.reduceNeg, Int.reduceToNat, List.reduceReplicate, String.reduceEq, dH, dBs, g1, g2, g3, g25, g26, g27, i1, i2, i3, i9, i10, i11, i25, i26, i27, i98, i99, i100, c10, c11, c3, c25, k1, hv, hlv, List.length_set, hio, hoi, hqe, hsi]
                          refine (equal_lent G _ _ _ _ hvr (by first | omega | (simp; done) | (simp; omega)) (by omega)).mono ?_
                          rintro _ H4 ⟨rfl, rfl⟩
                          rw [decide_eq_true (by first | rfl | (rw [hqe]))]
                          simp (disch := omega) only [go_sem, Nat.reduceEqDiff, Nat.reduceAdd, Nat.reduceMul, Nat.reduceSub, Nat.reduceLeDiff, ↓reduceIte, reduceCtorEq, Int.reduceAdd, Int.reduceSub, Int.reduceMul, Int.reduceNeg, Int.reduceToNat, List.reduceReplicate, String.reduceEq, dH, g1, g2, g3, g25, g26, g27, i1, i2, i3, i9, i10, i11, i25, i26, i27, i98, i99, i100]
                          refine ⟨i + 1, _, GhostS.refl _, (hJ _ _ _).2 ?_, by omega⟩
                          simp (disch := omega) only [go_sem, Nat.reduceEqDiff, Nat.reduceAdd, Nat.reduceMul, Nat.reduceSub, Nat.reduceLeDiff, ↓reduceIte, reduceCtorEq, Int.reduceAdd, Int.reduceSub, Int.reduceMul, Int.reduceNeg, Int.reduceToNat, List.reduceReplicate, String.reduceEq, dBs, g1, g2, g3, g25, g26, g27, i1, i2, i3, i9, i10, i11, i25, i26, i27, i98, i99, i100]
                          (repeat' apply And.intro) <;> (try first | rfl | assumption | omega)
                      · have hpos : 0 < q[i].length := List.length_pos_iff.2 hqe
                        have hgt : pe < i := by
                          rcases Nat.lt_or_ge pe i with h1 | h1
                          · exact h1
                          · exact absurd (by have := hpm i (by omega) (by simp [hio, hob]); simpa [hlt] using this) hqe
                        rcases hlg with hlg | hlg
                        · exfalso; omega
                        simp (disch := omega) only [go_sem, Nat.reduceEqDiff, Nat.reduceAdd, Nat.reduceMul, Nat.reduceSub, Nat.reduceLeDiff, ↓reduceIte, reduceCtorEq, Int.reduceAdd, Int.reduceSub, Int.reduceMul, Int.reduceNeg, Int.reduceToNat, List.reduceReplicate, String.reduceEq, dH, dBs, g1, g2, g3, g25, g26, g27, i1, i2, i3, i9, i10, i11, i25, i26, i27, i98, i99, i100, c10, c11, c3, c25, k1, hv, hlv, List.length_set, hio, hoi, hsi]
                        refine (equal_lent G _ _ _ _ hvr (by first | omega | (simp; done) | (simp; omega)) (by omega)).mono ?_
                        rintro _ H4 ⟨rfl, rfl⟩
                        rw [decide_eq_true (by first | rfl | (rw [hqe]))]
                        simp (disch := omega) only [go_sem, Nat.reduceEqDiff, Nat.reduceAdd, Nat.reduceMul, Nat.reduceSub, Nat.reduceLeDiff, ↓reduceIte, reduceCtorEq, Int.reduceAdd, Int.reduceSub, Int.reduceMul, Int.reduceNeg, Int.reduceToNat, List.reduceReplicate, String.reduceEq, dH, g1, g2, g3, g25, g26, g27, i1, i2, i3, i9, i10, i11, i25, i26, i27, i98, i99, i100]
                        refine ⟨i + 1, _, GhostS.refl _, (hJ _ _ _).2 ?_, by omega⟩
                        simp (disch := omega) only [go_sem, Nat.reduceEqDiff, Nat.reduceAdd, Nat.reduceMul, Nat.reduceSub, Nat.reduceLeDiff, ↓reduceIte, reduceCtorEq, Int.reduceAdd, Int.reduceSub, Int.reduceMul, Int.reduceNeg, Int.reduceToNat, List.reduceReplicate, String.reduceEq, dBs, g1, g2, g3, g25, g26, g27, i1, i2, i3, i9, i10, i11, i25, i26, i27, i98, i99, i100]
                        (repeat' apply And.intro) <;> (try first | rfl | assumption | omega)
                  · rcases hlg with hlg | hlg
                    all_goals
                      simp (disch := omega) only [go_sem, Nat.reduceEqDiff, Nat.reduceAdd, Nat.reduceMul, Nat.reduceSub, Nat.reduceLeDiff, ↓reduceIte, reduceCtorEq, Int.reduceAdd, Int.reduceSub, Int.reduceMul, Int.reduceNeg, Int.reduceToNat, List.reduceReplicate, String.reduceEq, dH, dBs, g1, g2, g3, g25, g26, g27, i1, i2, i3, i9, i10, i11, i25, i26, i27, i98, i99, i100, c10, c11, c3, c25, k1, hv, hlv, List.length_set, hio, hsi]
                      refine (equal_lent G _ _ _ _ hvr (by first | omega | (simp; done) | (simp; omega)) (by omega)).mono ?_
                      rintro _ H4 ⟨rfl, rfl⟩
                      rw [decide_eq_true (by first | rfl | (rw [hqe]))]
                      simp (disch := omega) only [go_sem, Nat.reduceEqDiff, Nat.reduceAdd, Nat.reduceMul, Nat.reduceSub, Nat.reduceLeDiff, ↓reduceIte, reduceCtorEq, Int.reduceAdd, Int.reduceSub, Int.reduceMul, Int.reduceNeg, Int.reduceToNat, List.reduceReplicate, String.reduceEq, dH, g1, g2, g3, g25, g26, g27, i1, i2, i3, i9, i10, i11, i25, i26, i27, i98, i99, i100]
                      refine ⟨i + 1, _, GhostS.refl _, (hJ _ _ _).2 ?_, by omega⟩
                      simp (disch := omega) only [go_sem, Nat.reduceEqDiff, Nat.reduceAdd, Nat.reduceMul, Nat.reduceSub, Nat.reduceLeDiff, ↓reduceIte, reduceCtorEq, Int.reduceAdd, Int.reduceSub, Int.reduceMul, Int.reduceNeg, Int.reduceToNat, List.reduceReplicate, String.reduceEq, dBs, g1, g2, g3, g25, g26, g27, i1, i2, i3, i9, i10, i11, i25, i26, i27, i98, i99, i100]
                      (repeat' apply And.intro) <;> (try first | rfl | assumption | omega)
              · simp (disch := omega) only [go_sem, Nat.reduceEqDiff, Nat.reduceAdd, Nat.reduceMul, Nat.reduceSub, Nat.reduceLeDiff, ↓reduceIte, reduceCtorEq, Int.reduceAdd, Int.reduceSub, Int.reduceMul, Int.reduceNeg, Int.reduceToNat, List.reduceReplicate, String.reduceEq, dBs, g1, g2, g3, g25, g26, g27, i1, i2, i3, i9, i10, i11, i25, i26, i27, i98, i99, i100]
                refine ⟨0 + 1, _, GhostS.refl _, (hI _ _ _).2 ?_, by omega⟩
                simp (disch := omega) only [go_sem, Nat.reduceEqDiff, Nat.reduceAdd, Nat.reduceMul, Nat.reduceSub, Nat.reduceLeDiff, ↓reduceIte, reduceCtorEq, Int.reduceAdd, Int.reduceSub, Int.reduceMul, Int.reduceNeg, Int.reduceToNat, List.reduceReplicate, String.reduceEq, dBs, g1, g2, g3, g25, g26, g27, i1, i2, i3, i9, i10, i11, i25, i26, i27, i98, i99, i100]
                (repeat' apply And.intro) <;> (try first | rfl | assumption | omega)
        · simp (disch := omega) only [go_sem, Nat.reduceEqDiff, Nat.reduceAdd, Nat.reduceMul, Nat.reduceSub, Nat.reduceLeDiff, ↓reduceIte, reduceCtorEq, Int.reduceAdd, Int.reduceSub, Int.reduceMul, Int.reduceNeg, Int.reduceToNat, List.reduceReplicate, String.reduceEq, g1, g2, g3, g25, g26, g27, j3, j25]
          refine (copy_ll G q _ hq hl).mono ?_
          rintro _ H1 ⟨u, rfl, hu⟩
          have i3 := hu.sub _ _ j3
          have i25 := hu.sub _ _ j25
          simp (disch := omega) only [go_sem, Nat.reduceEqDiff, Nat.reduceAdd, Nat.reduceMul, Nat.reduceSub, Nat.reduceLeDiff, ↓reduceIte, reduceCtorEq, Int.reduceAdd, Int.reduceSub, Int.reduceMul, Int.reduceNeg, Int.reduceToNat, List.reduceReplicate, String.reduceEq]
          intro r10 h10; dsimp only at h10
          have e3 : r3 ≠ r10 := none_ne h10 i3
          simp (disch := omega) only [go_sem, Nat.reduceEqDiff, Nat.reduceAdd, Nat.reduceMul, Nat.reduceSub, Nat.reduceLeDiff, ↓reduceIte, reduceCtorEq, Int.reduceAdd, Int.reduceSub, Int.reduceMul, Int.reduceNeg, Int.reduceToNat, List.reduceReplicate, String.reduceEq]
          intro r11 h11; dsimp only at h11
          rw [upd_eq_none] at h11
          have hHc1 := h11.2.2
          have f3 : r3 ≠ r11 := none_ne h11.2.2 i3
          simp (disch := omega) only [go_sem, Nat.reduceEqDiff, Nat.reduceAdd, Nat.reduceMul, Nat.reduceSub, Nat.reduceLeDiff, ↓reduceIte, reduceCtorEq, Int.reduceAdd, Int.reduceSub, Int.reduceMul, Int.reduceNeg, Int.reduceToNat, List.reduceReplicate, String.reduceEq, g1, g2, g3, g25, g26, g27, i3, e3, f3, h11]
          refine (OwnR2.frozen (wait_spec G ⟨true, ow, q⟩ n o _ hq hl ho)).mono ?_
          rintro _ H2 ⟨rfl, hH2⟩
          have a10 : H2 r10 = some (.cells [.bool false, dI 0, .nilSlice] 61) := by rw [hH2]; simp [upd, h11.2.1]
          have a11 : H2 r11 = some (.cells [.bool false, dI 0, dI 0] 65) := by rw [hH2]; simp [upd]
          have hlen := hu.uok.len
          by_cases hr : 0 ≤ n ∧ n < q.length
          · obtain ⟨m, rfl⟩ : ∃ m : Nat, n = m := ⟨n.toNat, by omega⟩
            have hmn : m < q.length := by omega
            have hg : q.getD m [] = q[m] := by simp [hmn]
            have hq1e : (waitS ⟨true, ow, q⟩ m).q = q.set m (q[m] ++ [ow]) := by
              show (putL q m ow).1 = _
              rw [putL_eq hmq how, if_neg (by omega), if_neg hown, hg]
            have hmq1 := waitS_may hm hmn rfl
            rw [show waitL ⟨true, ow, q⟩ m o = finishL ⟨true, ow, q⟩ (waitS ⟨true, ow, q⟩ m) o by rw [waitL, if_neg (by simp [hm]), if_neg (fun h => h hr), Int.toNat_natCast]]
            rw [show finishL ⟨true, ow, q⟩ (waitS ⟨true, ow, q⟩ m) o = ((releaseL (waitS ⟨true, ow, q⟩ m).q o).1, (releaseL (waitS ⟨true, ow, q⟩ m).q o).2, 0) by simp [finishL]]
            rw [hq1e] at hmq1 ⊢
            have hrow := mayQ_row hmq (List.getElem_mem hmn)
            obtain ⟨q1, hq1⟩ : ∃ q1, q.set m (q[m] ++ [ow]) = q1 := ⟨_, rfl⟩
            have hq1l : q1.length = q.length := by rw [← hq1]; simp
            rw [hq1] at hmq1 ⊢
            simp (disch := omega) only [go_sem, Nat.reduceEqDiff, Nat.reduceAdd, Nat.reduceMul, Nat.reduceSub, Nat.reduceLeDiff, ↓reduceIte, reduceCtorEq, Int.reduceAdd, Int.reduceSub, Int.reduceMul, Int.reduceNeg, Int.reduceToNat, List.reduceReplicate, String.reduceEq, dR2, dH, dBs, g1, g2, g3, g25, g26, g27, a10, a11, h11, hlen]
            rcases hu with ⟨h0, _⟩ | ⟨rm, vs, H1r, hrows, hrm, rfl, rfl⟩
            · rw [h0] at hmn; simp at hmn
            obtain ⟨v, hv, hvc, hvo, happ⟩ := rows_append hrows hmn
            have hvl := hrows.len
            rw [upd_eq_none] at h10
            have h11' := h11.2.2
            rw [upd_eq_none] at h11'
            rw [hH2]

            obtain ⟨X, hX, hXm, hX10, hX11, hd⟩ : ∃ X, upd (upd (upd (upd (upd H1r rm (some (.cells vs 37))) r10 (some (.cells [.bool false, dI 0, .nilSlice] 61))) r11 (some (.cells [.bool false, dI 0, dI 0] 65))) r10 (some (.cells [.bool (releaseL q1 o).1.locked, dI (releaseL q1 o).1.owner, dIss (releaseL q1 o).1.q] 61))) r11 (some (.cells [.bool (releaseL q1 o).2.1, dI (releaseL q1 o).2.2.1, dI (releaseL q1 o).2.2.2] 65)) = over H1r X ∧ X rm = some (.cells vs 37) ∧ X r10 = some (.cells [.bool (releaseL q1 o).1.locked, dI (releaseL q1 o).1.owner, dIss (releaseL q1 o).1.q] 61) ∧ X r11 = some (.cells [.bool (releaseL q1 o).2.1, dI (releaseL q1 o).2.2.1, dI (releaseL q1 o).2.2.2] 65) ∧ Disj H1r X :=
              ⟨upd (upd (upd (upd (upd h0 rm (some (.cells vs 37))) r10 (some (.cells [.bool false, dI 0, .nilSlice] 61))) r11 (some (.cells [.bool false, dI 0, dI 0] 65))) r10 (some (.cells [.bool (releaseL q1 o).1.locked, dI (releaseL q1 o).1.owner, dIss (releaseL q1 o).1.q] 61))) r11 (some (.cells [.bool (releaseL q1 o).2.1, dI (releaseL q1 o).2.2.1, dI (releaseL q1 o).2.2.2] 65)),
                by simp only [← upd_over, over_h0], by simp [upd, h10, h11, h11'], by simp [upd, h11], by simp [upd], (((((Disj.h0 H1r).hi hrm _).hi h10.2.2 _).hi h11'.2.2 _).hi h10.2.2 _).hi h11'.2.2 _⟩
            refine heap_eq (F := fun hp => dwp Try.prog G _ _ _ ⟨_, hp⟩) hX ?_
            have oM : ∀ Hi, over Hi X rm = some (.cells vs 37) := fun Hi => over_x hXm
            have o3 : over H1r X r3 = some (.cells [.bool true, dI ow, dIss q] 61) := over_sub hd _ _ (hrows.sub _ _ j3)
            clear hX hH2 a10 a11 i3 i25
            refine dwp_draws (by kernel_rfl) (.take 0 (.take 1 (.take 2 (.take 3 (.take 4 (.take 5 (.take 6 (.take 7 (.go 8 [5] (.go 9 [7] (.take 10 (.go 11 [] .done)))))))))))) (by kernel_rfl) ?_
            simp (disch := omega) only [go_sem, Nat.reduceEqDiff, Nat.reduceAdd, Nat.reduceMul, Nat.reduceSub, Nat.reduceLeDiff, ↓reduceIte, reduceCtorEq, Int.reduceAdd, Int.reduceSub, Int.reduceMul, Int.reduceNeg, Int.reduceToNat, List.reduceReplicate, String.reduceEq, dR2, dH, dBs, g1, g2, g3, g25, g26, g27, oM, o3, hv]
            intro rx hrx; dsimp only at hrx
            have n3 : r3 ≠ rx := none_ne hrx o3
            have nm : rm ≠ rx := none_ne hrx (oM _)
            simp only [over_eq_none] at hrx
            have nm3 : r3 ≠ rm := fun e => by rw [e, oM] at o3; cases o3
            simp (disch := omega) only [go_sem, Nat.reduceEqDiff, Nat.reduceAdd, Nat.reduceMul, Nat.reduceSub, Nat.reduceLeDiff, ↓reduceIte, reduceCtorEq, Int.reduceAdd, Int.reduceSub, Int.reduceMul, Int.reduceNeg, Int.reduceToNat, List.reduceReplicate, String.reduceEq, dR2, dH, dBs, g1, g2, g3, g25, g26, g27, oM, o3, hv, n3, nm]
            refine happ (hd.hi hrx.1 _) (by omega) fun v' H2' hr3 hd3 hvc' hvo' => ?_
            have o3' : over H2' X r3 = some (.cells [.bool true, dI ow, dIss q] 61) := by
              have hx : X r3 = none := hd.x (by rw [hrows.sub _ _ j3]; simp)
              rw [over_hi hx]; exact hr3.sub _ _ j3
            have o10 : ∀ Hi, over Hi X r10 = _ := fun Hi => over_x hX10
            have o11 : ∀ Hi, over Hi X r11 = _ := fun Hi => over_x hX11
            have n10 : r10 ≠ rx := none_ne hrx.2 hX10
            have n11 : r11 ≠ rx := none_ne hrx.2 hX11
            have hsp := splice_setD vs m v' (by omega)
            simp (disch := omega) only [go_sem, Nat.reduceEqDiff, Nat.reduceAdd, Nat.reduceMul, Nat.reduceSub, Nat.reduceLeDiff, ↓reduceIte, reduceCtorEq, Int.reduceAdd, Int.reduceSub, Int.reduceMul, Int.reduceNeg, Int.reduceToNat, List.reduceReplicate, String.reduceEq, KeepK, dR2, dH, dBs, g1, g2, g3, g25, g26, g27, oM, o3, o3', hv, n3, nm, nm3, hvc', hvo', o10, o11, n10, n11, h10, h11', h11, hsp]
            obtain ⟨hrm2, hrl⟩ := release_may (o := o) hmq1
            have hrq := mayS_q hrm2
            have hql1 := mayQ_len hmq1
            refine (rlmay_spec G (releaseL q1 o).1 _ (by omega) (by have := mayQ_flat hrq; omega) (fun l h => by have := mayQ_row hrq h; omega)).mono ?_
            rintro _ Hc ⟨rfl, hHc⟩
            have hd4 := hd3.at (r := rm) (by simp [upd, nm, hXm]) (some (.cells (vs.set m v') 37))
            have c10 : Hc r10 = some (.cells [.bool (releaseL q1 o).1.locked, dI (releaseL q1 o).1.owner, dIss (releaseL q1 o).1.q] 61) := by
              rw [hHc]; exact over_x (by simp [upd, n10, h10, hX10])
            have c11 : Hc r11 = some (.cells [.bool (releaseL q1 o).2.1, dI (releaseL q1 o).2.2.1, dI (releaseL q1 o).2.2.2] 65) := by
              rw [hHc]; exact over_x (by simp [upd, n11, h11', hX11])
            have cb : ∀ b ob, heap b = some ob → Hc b = some ob := fun b ob hb => by
              rw [hHc]; exact over_sub hd4 _ _ (hr3.sub _ _ hb)
            have c3 := cb _ _ j3
            have c25 := cb _ _ j25
            have csb : ∀ b ob, H b = some ob → Hc b = some ob := fun b ob hb => cb _ _ (hsub b ob hb)
            have cu : UOk q1 (.oslice 1 rm 0 q.length q.length) Hc := .inr ⟨rm, vs.set m v', heap, H2', by rw [hq1l], by rw [hHc]; exact over_x (by simp [upd]), by rw [← hq1]; exact hr3, fun b ob hb => by rw [hHc]; exact over_sub hd4 _ _ hb⟩
            obtain ⟨u, hu⟩ : ∃ u, DVal.oslice 1 rm 0 q.length q.length = u := ⟨_, rfl⟩
            rw [hu] at cu ⊢
            have hrm := hrm2
            clear hHc hsp o10 o11 oM o3 o3' hd hd3 hd4 hX10 hX11 hXm hk cb hr3 happ hv j3 j25
            rw [hrm]
            have hlen := cu.len
            have hmq1 := hmq1
            cases hp : openP q1 o with
            | none =>
              rw [show releaseL q1 o = (⟨false, 0, q1⟩, false, 0, 0) by simp [releaseL, hp]] at c10 c11 ⊢
              dsimp only at c10 c11
              simp (disch := omega) only [go_sem, Nat.reduceEqDiff, Nat.reduceAdd, Nat.reduceMul, Nat.reduceSub, Nat.reduceLeDiff, ↓reduceIte, reduceCtorEq, Int.reduceAdd, Int.reduceSub, Int.reduceMul, Int.reduceNeg, Int.reduceToNat, List.reduceReplicate, String.reduceEq, dR2, dH, g1, g2, g3, g25, g26, g27, c10, c11, h11, hlen]
              obtain ⟨J, hJ⟩ : ∃ J : Nat → (Nat → DVal) → DHeap → Prop, ∀ i env heap, J i env heap ↔ (env 1 = dI (m : Int) ∧ env 2 = dBs o ∧ env 3 = .optr r3 0 ∧ env 9 = u ∧ env 10 = .optr r10 0 ∧ env 11 = .optr r11 0 ∧ env 25 = .oslice 1 r25 0 2 2 ∧ env 26 = dI 2 ∧ env 27 = dI (1 : Nat) ∧ env 98 = u ∧ env 99 = dI q1.length ∧ env 100 = dI i ∧ i ≤ q1.length ∧ heap = Hc) := ⟨_, fun _ _ _ => Iff.rfl⟩
              refine DLoop.run J (fun i => q1.length - i) 0 ((hJ _ _ _).2 ?_) ?_
              · simp (disch := omega) only [go_sem, Nat.reduceEqDiff, Nat.reduceAdd, Nat.reduceMul, Nat.reduceSub, Nat.reduceLeDiff, ↓reduceIte, reduceCtorEq, Int.reduceAdd, Int.reduceSub, Int.reduceMul, Int.reduceNeg, Int.reduceToNat, List.reduceReplicate, String.reduceEq, dBs, g1, g2, g3, g25, g26, g27]
                (repeat' apply And.intro) <;> (try first | rfl | assumption | omega)
              · intro i env heap hi
                obtain ⟨i1, i2, i3, i9, i10, i11, i25, i26, i27, i98, i99, i100, hil, rfl⟩ := (hJ _ _ _).1 hi
                by_cases hlt : i < q1.length
                · rcases cu with ⟨hq0, _⟩ | ⟨rm, vs, B, H5, rfl, k1, k2, k3⟩
                  · rw [hq0] at hlt; simp at hlt
                  obtain ⟨v, hv, hvr, hlv, hfront⟩ := UOk.row k2 k3 hlt
                  have hlr := mayQ_row hmq1 (List.getElem_mem hlt)
                  have hno := openP_no hp i
                  by_cases hio : i < o.length
                  · have hoi : (o.map DVal.bool)[i]? = some (.bool o[i]) := by simp [hio]
                    cases hob : o[i] with
                    | false =>
                      rw [hob] at hoi
                      simp (disch := omega) only [go_sem, Nat.reduceEqDiff, Nat.reduceAdd, Nat.reduceMul, Nat.reduceSub, Nat.reduceLeDiff, ↓reduceIte, reduceCtorEq, Int.reduceAdd, Int.reduceSub, Int.reduceMul, Int.reduceNeg, Int.reduceToNat, List.reduceReplicate, String.reduceEq, dH, dBs, g1, g2, g3, g25, g26, g27, i1, i2, i3, i9, i10, i11, i25, i26, i27, i98, i99, i100, c10, c11, c3, c25, k1, hv, hlv, List.length_set, hio, hoi]
                      refine (equal_lent G _ _ _ _ hvr (by first | omega | (simp; done) | (simp; omega)) (by omega)).mono ?_
                      rintro _ H4 ⟨rfl, rfl⟩
                      rw [decide_eq_true (by first | rfl | (rw [hqe]))]
                      simp (disch := omega) only [go_sem, Nat.reduceEqDiff, Nat.reduceAdd, Nat.reduceMul, Nat.reduceSub, Nat.reduceLeDiff, ↓reduceIte, reduceCtorEq, Int.reduceAdd, Int.reduceSub, Int.reduceMul, Int.reduceNeg, Int.reduceToNat, List.reduceReplicate, String.reduceEq, dH, g1, g2, g3, g25, g26, g27, i1, i2, i3, i9, i10, i11, i25, i26, i27, i98, i99, i100]
                      refine ⟨i + 1, _, GhostS.refl _, (hJ _ _ _).2 ?_, by omega⟩
                      simp (disch := omega) only [go_sem, Nat.reduceEqDiff, Nat.reduceAdd, Nat.reduceMul, Nat.reduceSub, Nat.reduceLeDiff, ↓reduceIte, reduceCtorEq, Int.reduceAdd, Int.reduceSub, Int.reduceMul, Int.reduceNeg, Int.reduceToNat, List.reduceReplicate, String.reduceEq, dBs, g1, g2, g3, g25, g26, g27, i1, i2, i3, i9, i10, i11, i25, i26, i27, i98, i99, i100]
                      (repeat' apply And.intro) <;> (try first | rfl | assumption | omega)
                    | true =>
                      rw [hob] at hoi
                      have hqe : q1[i] = [] := by have := hno (by simp [hio, hob]); simpa [hlt] using this
                      simp (disch := omega) only [go_sem, Nat.reduceEqDiff, Nat.reduceAdd, Nat.reduceMul, Nat.reduceSub, Nat.reduceLeDiff, ↓reduceIte, reduceCtorEq, Int.reduceAdd, Int.reduceSub, Int.reduceMul, Int.reduceNeg, Int.reduceToNat, List.reduceReplicate, String.reduceEq, dH, dBs, g1, g2, g3, g25, g26, g27, i1, i2, i3, i9, i10, i11, i25, i26, i27, i98, i99, i100, c10, c11, c3, c25, k1, hv, hlv, List.length_set, hio, hoi, hqe]
                      refine (equal_lent G _ _ _ _ hvr (by first | omega | (simp; done) | (simp; omega)) (by omega)).mono ?_
                      rintro _ H4 ⟨rfl, rfl⟩
                      rw [decide_eq_true (by first | rfl | (rw [hqe]))]
                      simp (disch := omega) only [go_sem, Nat.reduceEqDiff, Nat.reduceAdd, Nat.reduceMul, Nat.reduceSub, Nat.reduceLeDiff, ↓reduceIte, reduceCtorEq, Int.reduceAdd, Int.reduceSub, Int.reduceMul, Int.reduceNeg, Int.reduceToNat, List.reduceReplicate, String.reduceEq, dH, g1, g2, g3, g25, g26, g27, i1, i2, i3, i9, i10, i11, i25, i26, i27, i98, i99, i100]
                      refine ⟨i + 1, _, GhostS.refl _, (hJ _ _ _).2 ?_, by omega⟩
                      simp (disch := omega) only [go_sem, Nat.reduceEqDiff, Nat.reduceAdd, Nat.reduceMul, Nat.reduceSub, Nat.reduceLeDiff, ↓reduceIte, reduceCtorEq, Int.reduceAdd, Int.reduceSub, Int.reduceMul, Int.reduceNeg, Int.reduceToNat, List.reduceReplicate, String.reduceEq, dBs, g1, g2, g3, g25, g26, g27, i1, i2, i3, i9, i10, i11, i25, i26, i27, i98, i99, i100]
                      (repeat' apply And.intro) <;> (try first | rfl | assumption | omega)
                  · simp (disch := omega) only [go_sem, Nat.reduceEqDiff, Nat.reduceAdd, Nat.reduceMul, Nat.reduceSub, Nat.reduceLeDiff, ↓reduceIte, reduceCtorEq, Int.reduceAdd, Int.reduceSub, Int.reduceMul, Int.reduceNeg, Int.reduceToNat, List.reduceReplicate, String.reduceEq, dH, dBs, g1, g2, g3, g25, g26, g27, i1, i2, i3, i9, i10, i11, i25, i26, i27, i98, i99, i100, c10, c11, c3, c25, k1, hv, hlv, List.length_set, hio]
                    refine (equal_lent G _ _ _ _ hvr (by first | omega | (simp; done) | (simp; omega)) (by omega)).mono ?_
                    rintro _ H4 ⟨rfl, rfl⟩
                    rw [decide_eq_true (by first | rfl | (rw [hqe]))]
                    simp (disch := omega) only [go_sem, Nat.reduceEqDiff, Nat.reduceAdd, Nat.reduceMul, Nat.reduceSub, Nat.reduceLeDiff, ↓reduceIte, reduceCtorEq, Int.reduceAdd, Int.reduceSub, Int.reduceMul, Int.reduceNeg, Int.reduceToNat, List.reduceReplicate, String.reduceEq, dH, g1, g2, g3, g25, g26, g27, i1, i2, i3, i9, i10, i11, i25, i26, i27, i98, i99, i100]
                    refine ⟨i + 1, _, GhostS.refl _, (hJ _ _ _).2 ?_, by omega⟩
                    simp (disch := omega) only [go_sem, Nat.reduceEqDiff, Nat.reduceAdd, Nat.reduceMul, Nat.reduceSub, Nat.reduceLeDiff, ↓reduceIte, reduceCtorEq, Int.reduceAdd, Int.reduceSub, Int.reduceMul, Int.reduceNeg, Int.reduceToNat, List.reduceReplicate, String.reduceEq, dBs, g1, g2, g3, g25, g26, g27, i1, i2, i3, i9, i10, i11, i25, i26, i27, i98, i99, i100]
                    (repeat' apply And.intro) <;> (try first | rfl | assumption | omega)
                · simp (disch := omega) only [go_sem, Nat.reduceEqDiff, Nat.reduceAdd, Nat.reduceMul, Nat.reduceSub, Nat.reduceLeDiff, ↓reduceIte, reduceCtorEq, Int.reduceAdd, Int.reduceSub, Int.reduceMul, Int.reduceNeg, Int.reduceToNat, List.reduceReplicate, String.reduceEq, dBs, g1, g2, g3, g25, g26, g27, i1, i2, i3, i9, i10, i11, i25, i26, i27, i98, i99, i100]
                  refine ⟨1 + 1, _, GhostS.refl _, (hI _ _ _).2 ?_, by omega⟩
                  simp (disch := omega) only [go_sem, Nat.reduceEqDiff, Nat.reduceAdd, Nat.reduceMul, Nat.reduceSub, Nat.reduceLeDiff, ↓reduceIte, reduceCtorEq, Int.reduceAdd, Int.reduceSub, Int.reduceMul, Int.reduceNeg, Int.reduceToNat, List.reduceReplicate, String.reduceEq, dBs, g1, g2, g3, g25, g26, g27, i1, i2, i3, i9, i10, i11, i25, i26, i27, i98, i99, i100]
                  (repeat' apply And.intro) <;> (try first | rfl | assumption | omega)
            | some p =>
              obtain ⟨l, hpl, hpe, hpt, hpo, hpm⟩ := takeL_first hmq1 hp
              obtain ⟨pe, pt⟩ := p
              dsimp only at hpl hpe hpt hpo hpm
              rw [show releaseL q1 o = ((⟨true, pt, q1.set pe l⟩ : PS), true, pt, (pe : Int)) by simp [releaseL, hp, hpt]] at c10 c11 ⊢
              dsimp only at c10 c11
              simp (disch := omega) only [go_sem, Nat.reduceEqDiff, Nat.reduceAdd, Nat.reduceMul, Nat.reduceSub, Nat.reduceLeDiff, ↓reduceIte, reduceCtorEq, Int.reduceAdd, Int.reduceSub, Int.reduceMul, Int.reduceNeg, Int.reduceToNat, List.reduceReplicate, String.reduceEq, dR2, dH, g1, g2, g3, g25, g26, g27, c10, c11, h11, hlen, List.length_set]
              obtain ⟨J, hJ⟩ : ∃ J : Nat → (Nat → DVal) → DHeap → Prop, ∀ i env heap, J i env heap ↔ (env 1 = dI (m : Int) ∧ env 2 = dBs o ∧ env 3 = .optr r3 0 ∧ env 9 = u ∧ env 10 = .optr r10 0 ∧ env 11 = .optr r11 0 ∧ env 25 = .oslice 1 r25 0 2 2 ∧ env 26 = dI 2 ∧ env 27 = dI (1 : Nat) ∧ env 98 = u ∧ env 99 = dI q1.length ∧ env 100 = dI i ∧ i ≤ q1.length ∧ heap = Hc) := ⟨_, fun _ _ _ => Iff.rfl⟩
              refine DLoop.run J (fun i => q1.length - i) 0 ((hJ _ _ _).2 ?_) ?_
              · simp (disch := omega) only [go_sem, Nat.reduceEqDiff, Nat.reduceAdd, Nat.reduceMul, Nat.reduceSub, Nat.reduceLeDiff, ↓reduceIte, reduceCtorEq, Int.reduceAdd, Int.reduceSub, Int.reduceMul, Int.reduceNeg, Int.reduceToNat, List.reduceReplicate, String.reduceEq, dBs, g1, g2, g3, g25, g26, g27]
                (repeat' apply And.intro) <;> (try first | rfl | assumption | omega)
              · intro i env heap hi
                obtain ⟨i1, i2, i3, i9, i10, i11, i25, i26, i27, i98, i99, i100, hil, rfl⟩ := (hJ _ _ _).1 hi
                by_cases hlt : i < q1.length
                · rcases cu with ⟨hq0, _⟩ | ⟨rm, vs, B, H5, rfl, k1, k2, k3⟩
                  · rw [hq0] at hlt; simp at hlt
                  obtain ⟨v, hv, hvr, hlv, hfront⟩ := UOk.row k2 k3 hlt
                  have hlr := mayQ_row hmq1 (List.getElem_mem hlt)
                  by_cases hip : i = pe
                  · subst hip
                    have hio : i < o.length := by
                      rcases Nat.lt_or_ge i o.length with h1 | h1
                      · exact h1
                      · simp [h1] at hpo
                    have hob : o[i] = true := by simpa [hio] using hpo
                    have hoi : (o.map DVal.bool)[i]? = some (.bool true) := by simp [hio, hob]
                    have hsi : (((q1.set i l).map dIs))[i]? = some (dIs l) := by simp [hlt]
                    have hll2 : l.length + 1 ≤ 32 := by rw [hpe] at hlr; simpa using hlr
                    obtain ⟨r, off, lo, cs, rfl, hr, hcs, hlo2, hvr2⟩ := hfront pt l hpe
                    rw [hpe] at hlv
                    simp (disch := omega) only [go_sem, Nat.reduceEqDiff, Nat.reduceAdd, Nat.reduceMul, Nat.reduceSub, Nat.reduceLeDiff, ↓reduceIte, reduceCtorEq, Int.reduceAdd, Int.reduceSub, Int.reduceMul, Int.reduceNeg, Int.reduceToNat, List.reduceReplicate, String.reduceEq, dH, dBs, g1, g2, g3, g25, g26, g27, i1, i2, i3, i9, i10, i11, i25, i26, i27, i98, i99, i100, c10, c11, c3, c25, k1, hv, hlv, List.length_set, hio, hoi, hsi, hr, hcs]
                    refine dwp_draws (by kernel_rfl) (.take 0 (.take 1 (.take 2 (.take 3 (.take 4 (.take 5 (.take 6 (.take 7 (.take 8 (.take 9 (.take 10 (.take 11 (.take 12 (.take 13 (.take 14 (.take 15 (.take 16 .done))))))))))))))))) (by kernel_rfl) ?_
                    simp (disch := omega) only [go_sem, Nat.reduceEqDiff, Nat.reduceAdd, Nat.reduceMul, Nat.reduceSub, Nat.reduceLeDiff, ↓reduceIte, reduceCtorEq, Int.reduceAdd, Int.reduceSub, Int.reduceMul, Int.reduceNeg, Int.reduceToNat, List.reduceReplicate, String.reduceEq, dH, dBs, g1, g2, g3, g25, g26, g27, i1, i2, i3, i9, i10, i11, i25, i26, i27, i98, i99, i100, c10, c11, c3, c25, k1, hv, hlv, List.length_set, hio, hoi, hsi, hr, hcs]
                    refine (equal_lent G _ _ _ _ hvr2 (by first | omega | (simp; done) | (simp; omega)) (by omega)).mono ?_
                    rintro _ H4 ⟨rfl, rfl⟩
                    rw [decide_eq_true (by first | rfl | (rw [hqe]))]
                    simp (disch := omega) only [go_sem, Nat.reduceEqDiff, Nat.reduceAdd, Nat.reduceMul, Nat.reduceSub, Nat.reduceLeDiff, ↓reduceIte, reduceCtorEq, Int.reduceAdd, Int.reduceSub, Int.reduceMul, Int.reduceNeg, Int.reduceToNat, List.reduceReplicate, String.reduceEq, dH, g1, g2, g3, g25, g26, g27, i1, i2, i3, i9, i10, i11, i25, i26, i27, i98, i99, i100]
                    refine ⟨i + 1, _, GhostS.refl _, (hJ _ _ _).2 ?_, by omega⟩
                    simp (disch := omega) only [go_sem, Nat.reduceEqDiff, Nat.reduceAdd, Nat.reduceMul, Nat.reduceSub, Nat.reduceLeDiff, ↓reduceIte, reduceCtorEq, Int.reduceAdd, Int.reduceSub, Int.reduceMul, Int.reduceNeg, Int.reduceToNat, List.reduceReplicate, String.reduceEq, dBs, g1, g2, g3, g25, g26, g27, i1, i2, i3, i9, i10, i11, i25, i26, i27, i98, i99, i100]
                    (repeat' apply And.intro) <;> (try first | rfl | assumption | omega)
                  · have hsi : (((q1.set pe l).map dIs))[i]? = some (dIs q1[i]) := by simp [hlt, Ne.symm hip]
                    have hlg := Nat.lt_or_gt_of_ne hip
                    by_cases hio : i < o.length
                    · have hoi : (o.map DVal.bool)[i]? = some (.bool o[i]) := by simp [hio]
                      cases hob : o[i] with
                      | false =>
                        rw [hob] at hoi
                        rcases hlg with hlg | hlg
                        all_goals
                          simp (disch := omega) only [go_sem, Nat.reduceEqDiff, Nat.reduceAdd, Nat.reduceMul, Nat.reduceSub, Nat.reduceLeDiff, ↓reduceIte, reduceCtorEq, Int.reduceAdd, Int.reduceSub, Int.reduceMul, Int.reduceNeg, Int.reduceToNat, List.reduceReplicate, String.reduceEq, dH, dBs, g1, g2, g3, g25, g26, g27, i1, i2, i3, i9, i10, i11, i25, i26, i27, i98, i99, i100, c10, c11, c3, c25, k1, hv, hlv, List.length_set, hio, hoi, hsi]
                          refine (equal_lent G _ _ _ _ hvr (by first | omega | (simp; done) | (simp; omega)) (by omega)).mono ?_
                          rintro _ H4 ⟨rfl, rfl⟩
                          rw [decide_eq_true (by first | rfl | (rw [hqe]))]
                          simp (disch := omega) only [go_sem, Nat.reduceEqDiff, Nat.reduceAdd, Nat.reduceMul, Nat.reduceSub, Nat.reduceLeDiff, ↓reduceIte, reduceCtorEq, Int.reduceAdd, Int.reduceSub, Int.reduceMul, Int.reduceNeg, Int.reduceToNat, List.reduceReplicate, String.reduceEq, dH, g1, g2, g3, g25, g26, g27, i1, i2, i3, i9, i10, i11, i25, i26, i27, i98, i99, i100]
                          refine ⟨i + 1, _, GhostS.refl _, (hJ _ _ _).2 ?_, by omega⟩
                          simp (disch := omega) only [go_sem, Nat.reduceEqDiff, Nat.reduceAdd, Nat.reduceMul, Nat.reduceSub, Nat.reduceLeDiff, ↓reduceIte, reduceCtorEq, Int.reduceAdd, Int.reduceSub, Int.reduceMul, Int.reduceNeg, Int.reduceToNat, List.reduceReplicate, String.reduceEq, dBs, g1, g2, g3, g25, g26, g27, i1, i2, i3, i9, i10, i11, i25, i26, i27, i98, i99, i100]
                          (repeat' apply And.intro) <;> (try first | rfl | assumption | omega)
                      | true =>
                        rw [hob] at hoi
                        by_cases hqe : q1[i] = []
                        · rcases hlg with hlg | hlg
                          all_goals
                            simp (disch := omega) only [go_sem, Nat.reduceEqDiff, Nat.reduceAdd, Nat.reduceMul, Nat.reduceSub, Nat.reduceLeDiff, ↓reduceIte, reduceCtorEq, Int.reduceAdd, Int.reduceSub, Int.reduceMul, Int.reduceNeg, Int.reduceToNat, List.reduceReplicate, String.reduceEq, dH, dBs, g1, g2, g3, g25, g26, g27, i1, i2, i3, i9, i10, i11, i25, i26, i27, i98, i99, i100, c10, c11, c3, c25, k1, hv, hlv, List.length_set, hio, hoi, hqe, hsi]
                            refine (equal_lent G _ _ _ _ hvr (by first | omega | (simp; done) | (simp; omega)) (by omega)).mono ?_
                            rintro _ H4 ⟨rfl, rfl⟩
                            rw [decide_eq_true (by first | rfl | (rw [hqe]))]
                            simp (disch := omega) only [go_sem, Nat.reduceEqDiff, Nat.reduceAdd, Nat.reduceMul, Nat.reduceSub, Nat.reduceLeDiff, ↓reduceIte, reduceCtorEq, Int.reduceAdd, Int.reduceSub, Int.reduceMul, Int.reduceNeg, Int.reduceToNat, List.reduceReplicate, String.reduceEq, dH, g1, g2, g3, g25, g26, g27, i1, i2, i3, i9, i10, i11, i25, i26, i27, i98, i99, i100]
                            refine ⟨i + 1, _, GhostS.refl _, (hJ _ _ _).2 ?_, by omega⟩
                            simp (disch := omega) only [go_sem, Nat.reduceEqDiff, Nat.reduceAdd, Nat.reduceMul, Nat.reduceSub, Nat.reduceLeDiff, ↓reduceIte, reduceCtorEq, Int.reduceAdd, Int.reduceSub, Int.reduceMul, Int.reduceNeg, Int.reduceToNat, List.reduceReplicate, String.reduceEq, dBs, g1, g2, g3, g25, g26, g27, i1, i2, i3, i9, i10, i11, i25, i26, i27, i98, i99, i100]
                            (repeat' apply And.intro) <;> (try first | rfl | assumption | omega)
                        · have hpos : 0 < q1[i].length := List.length_pos_iff.2 hqe
                          have hgt : pe < i := by
                            rcases Nat.lt_or_ge pe i with h1 | h1
                            · exact h1
                            · exact absurd (by have := hpm i (by omega) (by simp [hio, hob]); simpa [hlt] using this) hqe
                          rcases hlg with hlg | hlg
                          · exfalso; omega
                          simp (disch := omega) only [go_sem, Nat.reduceEqDiff, Nat.reduceAdd, Nat.reduceMul, Nat.reduceSub, Nat.reduceLeDiff, ↓reduceIte, reduceCtorEq, Int.reduceAdd, Int.reduceSub, Int.reduceMul, Int.reduceNeg, Int.reduceToNat, List.reduceReplicate, String.reduceEq, dH, dBs, g1, g2, g3, g25, g26, g27, i1, i2, i3, i9, i10, i11, i25, i26, i27, i98, i99, i100, c10, c11, c3, c25, k1, hv, hlv, List.length_set, hio, hoi, hsi]
                          refine (equal_lent G _ _ _ _ hvr (by first | omega | (simp; done) | (simp; omega)) (by omega)).mono ?_
                          rintro _ H4 ⟨rfl, rfl⟩
                          rw [decide_eq_true (by first | rfl | (rw [hqe]))]
                          simp (disch := omega) only [go_sem, Nat.reduceEqDiff, Nat.reduceAdd, Nat.reduceMul, Nat.reduceSub, Nat.reduceLeDiff, ↓reduceIte, reduceCtorEq, Int.reduceAdd, Int.reduceSub, Int.reduceMul, Int.reduceNeg, Int.reduceToNat, List.reduceReplicate, String.reduceEq, dH, g1, g2, g3, g25, g26, g27, i1, i2, i3, i9, i10, i11, i25, i26, i27, i98, i99, i100]
                          refine ⟨i + 1, _, GhostS.refl _, (hJ _ _ _).2 ?_, by omega⟩
                          simp (disch := omega) only [go_sem, Nat.reduceEqDiff, Nat.reduceAdd, Nat.reduceMul, Nat.reduceSub, Nat.reduceLeDiff, ↓reduceIte, reduceCtorEq, Int.reduceAdd, Int.reduceSub, Int.reduceMul, Int.reduceNeg, Int.reduceToNat, List.reduceReplicate, String.reduceEq, dBs, g1, g2, g3, g25, g26, g27, i1, i2, i3, i9, i10, i11, i25, i26, i27, i98, i99, i100]
                          (repeat' apply And.intro) <;> (try first | rfl | assumption | omega)
                    · rcases hlg with hlg | hlg
                      all_goals
                        simp (disch := omega) only [go_sem, Nat.reduceEqDiff, Nat.reduceAdd, Nat.reduceMul, Nat.reduceSub, Nat.reduceLeDiff, ↓reduceIte, reduceCtorEq, Int.reduceAdd, Int.reduceSub, Int.reduceMul, Int.reduceNeg, Int.reduceToNat, List.reduceReplicate, String.reduceEq, dH, dBs, g1, g2, g3, g25, g26, g27, i1, i2, i3, i9, i10, i11, i25, i26, i27, i98, i99, i100, c10, c11, c3, c25, k1, hv, hlv, List.length_set, hio, hsi]
                        refine (equal_lent G _ _ _ _ hvr (by first | omega | (simp; done) | (simp; omega)) (by omega)).mono ?_
                        rintro _ H4 ⟨rfl, rfl⟩
                        rw [decide_eq_true (by first | rfl | (rw [hqe]))]
                        simp (disch := omega) only [go_sem, Nat.reduceEqDiff, Nat.reduceAdd, Nat.reduceMul, Nat.reduceSub, Nat.reduceLeDiff, ↓reduceIte, reduceCtorEq, Int.reduceAdd, Int.reduceSub, Int.reduceMul, Int.reduceNeg, Int.reduceToNat, List.reduceReplicate, String.reduceEq, dH, g1, g2, g3, g25, g26, g27, i1, i2, i3, i9, i10, i11, i25, i26, i27, i98, i99, i100]
                        refine ⟨i + 1, _, GhostS.refl _, (hJ _ _ _).2 ?_, by omega⟩
                        simp (disch := omega) only [go_sem, Nat.reduceEqDiff, Nat.reduceAdd, Nat.reduceMul, Nat.reduceSub, Nat.reduceLeDiff, ↓reduceIte, reduceCtorEq, Int.reduceAdd, Int.reduceSub, Int.reduceMul, Int.reduceNeg, Int.reduceToNat, List.reduceReplicate, String.reduceEq, dBs, g1, g2, g3, g25, g26, g27, i1, i2, i3, i9, i10, i11, i25, i26, i27, i98, i99, i100]
                        (repeat' apply And.intro) <;> (try first | rfl | assumption | omega)
                · simp (disch := omega) only [go_sem, Nat.reduceEqDiff, Nat.reduceAdd, Nat.reduceMul, Nat.reduceSub, Nat.reduceLeDiff, ↓reduceIte, reduceCtorEq, Int.reduceAdd, Int.reduceSub, Int.reduceMul, Int.reduceNeg, Int.reduceToNat, List.reduceReplicate, String.reduceEq, dBs, g1, g2, g3, g25, g26, g27, i1, i2, i3, i9, i10, i11, i25, i26, i27, i98, i99, i100]
                  refine ⟨1 + 1, _, GhostS.refl _, (hI _ _ _).2 ?_, by omega⟩
                  simp (disch := omega) only [go_sem, Nat.reduceEqDiff, Nat.reduceAdd, Nat.reduceMul, Nat.reduceSub, Nat.reduceLeDiff, ↓reduceIte, reduceCtorEq, Int.reduceAdd, Int.reduceSub, Int.reduceMul, Int.reduceNeg, Int.reduceToNat, List.reduceReplicate, String.reduceEq, dBs, g1, g2, g3, g25, g26, g27, i1, i2, i3, i9, i10, i11, i25, i26, i27, i98, i99, i100]
                  (repeat' apply And.intro) <;> (try first | rfl | assumption | omega)
          · rw [show waitL ⟨true, ow, q⟩ n o = (ZPS, ZH, 4) by rw [waitL, if_neg (by simp [hm]), if_pos hr]]
            have out : ∀ Hc, Hc = upd (upd H2 r10 (some (.cells [.bool false, dI 0, dIss []] 61))) r11 (some (.cells [.bool false, dI 0, dI 0] 65)) → LR r3 r25 ow q H Hc := fun Hc hHc => by
              have up : ∀ b ob, H1 b = some ob → Hc b = some ob := by
                rw [hHc, hH2]
                exact sub_upd (sub_upd (sub_upd (sub_upd (sub_refl H1) h10 _) hHc1 _) h10 _) hHc1 _
              exact ⟨up _ _ i3, up _ _ i25, fun b ob hb => up _ _ (hu.sub _ _ (hsub b ob hb))⟩
            rcases (by omega : n < 0 ∨ (0 ≤ n ∧ (q.length : Int) ≤ n)) with c1 | ⟨c0, c1⟩
            all_goals
              simp (disch := omega) only [go_sem, Nat.reduceEqDiff, Nat.reduceAdd, Nat.reduceMul, Nat.reduceSub, Nat.reduceLeDiff, ↓reduceIte, reduceCtorEq, Int.reduceAdd, Int.reduceSub, Int.reduceMul, Int.reduceNeg, Int.reduceToNat, List.reduceReplicate, String.reduceEq, dR2, dH, ZPS, ZH, dBs, g1, g2, g3, g25, g26, g27, a10, a11, h11, hlen]
              refine ⟨2, _, GhostS.refl _, (hI _ _ _).2 ?_, by omega⟩
              simp (disch := omega) only [go_sem, Nat.reduceEqDiff, Nat.reduceAdd, Nat.reduceMul, Nat.reduceSub, Nat.reduceLeDiff, ↓reduceIte, reduceCtorEq, Int.reduceAdd, Int.reduceSub, Int.reduceMul, Int.reduceNeg, Int.reduceToNat, List.reduceReplicate, String.reduceEq, dR2, dH, ZPS, ZH, dBs, g1, g2, g3, g25, g26, g27, a10, a11, h11, hlen]
              exact ⟨rfl, out _ rfl⟩
        · simp (disch := omega) only [go_sem, Nat.reduceEqDiff, Nat.reduceAdd, Nat.reduceMul, Nat.reduceSub, Nat.reduceLeDiff, ↓reduceIte, reduceCtorEq, Int.reduceAdd, Int.reduceSub, Int.reduceMul, Int.reduceNeg, Int.reduceToNat, List.reduceReplicate, String.reduceEq, g1, g2, g3, g25, g26, g27, j3, j25]
          refine (awake32_spec G hG _).mono ?_
          rintro _ H9 ⟨rfl, rfl⟩
          simp (disch := omega) only [go_sem, Nat.reduceEqDiff, Nat.reduceAdd, Nat.reduceMul, Nat.reduceSub, Nat.reduceLeDiff, ↓reduceIte, reduceCtorEq, Int.reduceAdd, Int.reduceSub, Int.reduceMul, Int.reduceNeg, Int.reduceToNat, List.reduceReplicate, String.reduceEq]
          exact DFin.sub hsub (DFin.refl ⟨rfl, rfl⟩)
end Go.Dl

-- LockSteps: what the calls come to are states.
namespace Go.Dl
open Go Go.Proofs
set_option maxRecDepth 10000

theorem mayQ_nil : mayQ [] = true := by decide
theorem begin_q {s : PS} {t a c : Int} : mayQ (beginL s t a c).1.q = true := by
  unfold beginL
  by_cases hm : mayS s = false
  · rw [if_pos hm]; exact mayQ_nil
  · rw [if_neg hm]
    split
    · exact mayQ_nil
    · split
      · exact mayQ_nil
      · split
        · exact mayQ_nil
        · exact mayS_q (s := s) (by simpa using hm)
theorem finish_q {s s1 : PS} {o : List Bool} (h : s.locked = true → mayQ s1.q = true) : mayQ (finishL s s1 o).1.q = true := by
  unfold finishL
  split
  · exact mayQ_nil
  · rename_i hl
    exact mayS_q (release_may (h (by simpa using hl))).1
theorem end_q {s : PS} {o : List Bool} : mayQ (endL s o).1.q = true := by
  unfold endL
  by_cases hm : mayS s = false
  · rw [if_pos hm]; exact mayQ_nil
  · rw [if_neg hm]; exact finish_q fun _ => mayS_q (by simpa using hm)
theorem wait_q {s : PS} {n : Int} {o : List Bool} : mayQ (waitL s n o).1.q = true := by
  unfold waitL
  by_cases hm : mayS s = false
  · rw [if_pos hm]; exact mayQ_nil
  · rw [if_neg hm]
    split
    · exact mayQ_nil
    · rename_i hn
      exact finish_q fun hl => waitS_may (by simpa using hm) (by omega) hl
theorem remove_q {q : List (List Int)} {t : Int} (h : mayQ q = true) : mayQ (removeL q t).1 = true := by
  by_cases ht : 0 ≤ t ∧ t < 32
  · by_cases hm : t ∈ q.flatten
    · obtain ⟨e, he⟩ := mem_flat.1 hm
      have hlt : e < q.length := by
        rcases Nat.lt_or_ge e q.length with h1 | h1
        · exact h1
        · simp [h1] at he
      have he' : t ∈ q[e] := by simpa [hlt] using he
      rw [removeL_at h hlt he']
      exact mayQ_part h hlt List.filter_sublist
    · rw [removeL_no h ht hm]; exact mayQ_nil
  · rw [removeL, h, if_neg (by simp), if_pos ht]; exact mayQ_nil
theorem leave_q {s : PS} {t : Int} : mayQ (leaveL s t).1.q = true := by
  unfold leaveL
  by_cases hm : mayS s = false
  · rw [if_pos hm]; exact mayQ_nil
  · rw [if_neg hm]
    split
    · exact mayQ_nil
    · exact remove_q (mayS_q (by simpa using hm))
theorem new_q {n : Int} : mayQ (newL n).1.q = true := by
  unfold newL
  split
  · rename_i h
    have : ∀ k, ∀ x ∈ List.replicate k ([] : List Int), x = [] := fun k x hx => (List.mem_replicate.1 hx).2
    have hf : (List.replicate n.toNat ([] : List Int)).flatten = [] := by
      rw [List.flatten_eq_nil_iff]; exact this _
    simp [mayQ, hf]; omega
  · exact mayQ_nil
end Go.Dl
