/- The data level and the contracts of the functions that are reached (part 10). -/
import Derived.Test.YtimnmempnhjbfaaMbi
set_option linter.unusedSimpArgs false
set_option linter.unusedVariables false
-- LockSteps: the walk. PRINTED BY gen_f7.py.
namespace Go.Dl
open Go Go.Proofs
set_option maxRecDepth 10000
set_option maxHeartbeats 8000000

def dArgs (s : PS) (t n p c k : Int) (l : List Int) (o : List Bool) : DVal := .agg [.bool s.locked, dI s.owner, dIss s.q, dI t, dI n, dI p, dI c, dI k, dIs l, dBs o]
theorem lockSteps_spec (G : Nat → DVal) (hG : ∀ g, ∃ r o, G g = .optr r o) (s : PS) (t n p c k : Int) (l : List Int) (o : List Bool) (H : DHeap) (hq : s.q.length ≤ 1099511627776) (hb : s.q.flatten.length ≤ 1099511627776) (hl : ∀ l ∈ s.q, l.length ≤ 1000000000) (hll : l.length ≤ 100000000000) (ho : o.length ≤ 1099511627776) :
    DCalls Try.prog G 9 [dArgs s t n p c k l o] H (DRet (.bool true) H) := by
  obtain ⟨lo, ow, q⟩ := s
  dsimp only at hq hb hl
  have hl1 : ∀ l ∈ q, l.length ≤ 1099511627776 := fun l h => Nat.le_trans (hl l h) (by omega)
  refine dcalls_intro Try.func9 Try.call9 rfl (by kernel_rfl) ?_
  simp (disch := omega) only [go_sem, Nat.reduceEqDiff, Nat.reduceAdd, Nat.reduceMul, Nat.reduceSub, Nat.reduceLeDiff, ↓reduceIte, reduceCtorEq, Int.reduceAdd, Int.reduceSub, Int.reduceMul, Int.reduceNeg, Int.reduceToNat, List.reduceReplicate, String.reduceEq, dArgs, dBs]
  intro r1 h1; dsimp only at h1
  simp (disch := omega) only [go_sem, Nat.reduceEqDiff, Nat.reduceAdd, Nat.reduceMul, Nat.reduceSub, Nat.reduceLeDiff, ↓reduceIte, reduceCtorEq, Int.reduceAdd, Int.reduceSub, Int.reduceMul, Int.reduceNeg, Int.reduceToNat, List.reduceReplicate, String.reduceEq]
  intro r3 h3; dsimp only at h3
  rw [upd_eq_none] at h3
  simp (disch := omega) only [go_sem, Nat.reduceEqDiff, Nat.reduceAdd, Nat.reduceMul, Nat.reduceSub, Nat.reduceLeDiff, ↓reduceIte, reduceCtorEq, Int.reduceAdd, Int.reduceSub, Int.reduceMul, Int.reduceNeg, Int.reduceToNat, List.reduceReplicate, String.reduceEq, h3]
  refine DCalls.leArgs (.cons (.refl _) (.cons (.refl _) (.cons .nilIs .nil))) ?_
  refine (copy_spec G q (-1) [] _ hq hl1).mono ?_
  rintro _ H2 ⟨rfl, hH⟩
  rw [setI_neg]
  have e1 := h1
  have e3 := h3.2.2
  have hsub : ∀ b ob, H b = some ob → H2 b = some ob := by rw [hH]; exact (by repeat (first | assumption | exact sub_refl _ | refine sub_upd ?_ (by assumption) _))
  have k1 : H2 r1 = some (.cells [.bool lo, dI ow, dIss q, dI t, dI n, dI p, dI c, dI k, dIs l, dBs o] 87) := by rw [hH]; simp [upd, h3, dIss, dIs, dBs]
  have k3 : H2 r3 = some (.cells [.bool lo, dI ow, dIss q] 61) := by rw [hH]; simp [upd, dIss]
  clear hH
  have n13 : r1 ≠ r3 := h3.2.1
  simp (disch := omega) only [go_sem, Nat.reduceEqDiff, Nat.reduceAdd, Nat.reduceMul, Nat.reduceSub, Nat.reduceLeDiff, ↓reduceIte, reduceCtorEq, Int.reduceAdd, Int.reduceSub, Int.reduceMul, Int.reduceNeg, Int.reduceToNat, List.reduceReplicate, String.reduceEq, k1, k3, n13]
  refine heap_eq (F := fun hp => DCalls _ _ _ _ hp _) (upd_self k3) ?_
  refine (begin_spec G ⟨lo, ow, q⟩ t p c _ hq hl1).mono ?_
  rintro _ Ha4 ⟨u4, rfl, hu4⟩
  have hs : ∀ b ob, H2 b = some ob → Ha4 b = some ob := by intro b ob hb; refine hu4.sub b ob ?_; revert b ob; exact (by repeat (first | assumption | exact sub_refl _ | refine sub_upd ?_ (by assumption) _))
  replace k1 := hs _ _ k1
  replace k3 := hs _ _ k3
  have v4 := hu4.views
  have l4 := (hu4.lok (by have := mayQ_len (begin_q (s := ⟨lo, ow, q⟩) (t := t) (a := p) (c := c)); omega) (fun l h => by have := mayQ_row begin_q h; omega)).down (H0 := H) (by first | assumption | exact (by repeat (first | assumption | exact sub_refl _ | refine sub_upd ?_ (by assumption) _)))
  have w4 := hu4.cell1
  replace hsub : ∀ b ob, H b = some ob → Ha4 b = some ob := fun b ob hb => hs b ob (hsub b ob hb)
  clear hs hu4
  simp (disch := omega) only [go_sem, Nat.reduceEqDiff, Nat.reduceAdd, Nat.reduceMul, Nat.reduceSub, Nat.reduceLeDiff, ↓reduceIte, reduceCtorEq, Int.reduceAdd, Int.reduceSub, Int.reduceMul, Int.reduceNeg, Int.reduceToNat, List.reduceReplicate, String.reduceEq, dR1, dR2, dH, k1, k3, w4.1, w4.2]
  intro r4 h4; dsimp only at h4
  have n1 : r1 ≠ r4 := none_ne h4 k1
  have n3 : r3 ≠ r4 := none_ne h4 k3
  have e4 := sub_none hsub h4
  simp (disch := omega) only [go_sem, Nat.reduceEqDiff, Nat.reduceAdd, Nat.reduceMul, Nat.reduceSub, Nat.reduceLeDiff, ↓reduceIte, reduceCtorEq, Int.reduceAdd, Int.reduceSub, Int.reduceMul, Int.reduceNeg, Int.reduceToNat, List.reduceReplicate, String.reduceEq, dR1, dR2, dH, k1, k3, n1, n3, w4.1, w4.2]
  refine (rbegin_spec G ⟨lo, ow, q⟩ t p c _ hq hb hl1).mono ?_
  rintro _ Ha6 ⟨rfl, hH⟩
  have hs : ∀ b ob, Ha4 b = some ob → Ha6 b = some ob := by rw [hH]; exact (by repeat (first | assumption | exact sub_refl _ | refine sub_upd ?_ (by assumption) _))
  replace k1 := hs _ _ k1
  replace k3 := hs _ _ k3
  replace v4 := v4.up hs; replace l4 := l4.up hs
  have k4 : Ha6 r4 = some (.cells [.bool (beginL ⟨lo, ow, q⟩ t p c).1.locked, dI (beginL ⟨lo, ow, q⟩ t p c).1.owner, u4] 61) := by rw [hH]; simp [upd, dIss, h4]
  replace hsub : ∀ b ob, H b = some ob → Ha6 b = some ob := fun b ob hb => hs b ob (hsub b ob hb)
  clear hs hH
  simp (disch := omega) only [go_sem, Nat.reduceEqDiff, Nat.reduceAdd, Nat.reduceMul, Nat.reduceSub, Nat.reduceLeDiff, ↓reduceIte, reduceCtorEq, Int.reduceAdd, Int.reduceSub, Int.reduceMul, Int.reduceNeg, Int.reduceToNat, List.reduceReplicate, String.reduceEq, dR1, dR2, dH, k1, k3]
  intro r6 h6; dsimp only at h6
  have n1 : r1 ≠ r6 := none_ne h6 k1
  have n3 : r3 ≠ r6 := none_ne h6 k3
  have e6 := sub_none hsub h6
  simp (disch := omega) only [go_sem, Nat.reduceEqDiff, Nat.reduceAdd, Nat.reduceMul, Nat.reduceSub, Nat.reduceLeDiff, ↓reduceIte, reduceCtorEq, Int.reduceAdd, Int.reduceSub, Int.reduceMul, Int.reduceNeg, Int.reduceToNat, List.reduceReplicate, String.reduceEq, dR1, dR2, dH, k1, k3, n1, n3]
  refine (end_spec G ⟨lo, ow, q⟩ o _ hq hl1 ho).mono ?_
  rintro _ Ha8 ⟨u8, rfl, hu8⟩
  have hs : ∀ b ob, Ha6 b = some ob → Ha8 b = some ob := by intro b ob hb; refine hu8.sub b ob ?_; revert b ob; exact (by repeat (first | assumption | exact sub_refl _ | refine sub_upd ?_ (by assumption) _))
  replace k1 := hs _ _ k1
  replace k3 := hs _ _ k3
  replace k4 := hs _ _ k4
  replace v4 := v4.up hs; replace l4 := l4.up hs
  have k6 : Ha8 r6 = some (.cells [.bool (beginL ⟨lo, ow, q⟩ t p c).1.locked, dI (beginL ⟨lo, ow, q⟩ t p c).1.owner, dIss (beginL ⟨lo, ow, q⟩ t p c).1.q] 61) := hu8.sub _ _ (by simp [upd, dIss, h6])
  have v8 := hu8.views
  have l8 := (hu8.lok (by have := mayQ_len (end_q (s := ⟨lo, ow, q⟩) (o := o)); omega) (fun l h => by have := mayQ_row end_q h; omega)).down (H0 := H) (by first | assumption | exact (by repeat (first | assumption | exact sub_refl _ | refine sub_upd ?_ (by assumption) _)))
  have w8 := hu8.cell1
  replace hsub : ∀ b ob, H b = some ob → Ha8 b = some ob := fun b ob hb => hs b ob (hsub b ob hb)
  clear hs hu8
  simp (disch := omega) only [go_sem, Nat.reduceEqDiff, Nat.reduceAdd, Nat.reduceMul, Nat.reduceSub, Nat.reduceLeDiff, ↓reduceIte, reduceCtorEq, Int.reduceAdd, Int.reduceSub, Int.reduceMul, Int.reduceNeg, Int.reduceToNat, List.reduceReplicate, String.reduceEq, dR1, dR2, dH, k1, k3, w8.1, w8.2]
  intro r8 h8; dsimp only at h8
  have n1 : r1 ≠ r8 := none_ne h8 k1
  have n3 : r3 ≠ r8 := none_ne h8 k3
  have e8 := sub_none hsub h8
  simp (disch := omega) only [go_sem, Nat.reduceEqDiff, Nat.reduceAdd, Nat.reduceMul, Nat.reduceSub, Nat.reduceLeDiff, ↓reduceIte, reduceCtorEq, Int.reduceAdd, Int.reduceSub, Int.reduceMul, Int.reduceNeg, Int.reduceToNat, List.reduceReplicate, String.reduceEq, dR1, dR2, dH, k1, k3, n1, n3]
  intro r9 h9; dsimp only at h9
  simp only [upd_eq_none] at h9
  have m1 : r1 ≠ r9 := none_ne h9.2.2 k1
  have m3 : r3 ≠ r9 := none_ne h9.2.2 k3
  have g9 := h9.2.2
  have e9 := sub_none hsub g9
  simp (disch := omega) only [go_sem, Nat.reduceEqDiff, Nat.reduceAdd, Nat.reduceMul, Nat.reduceSub, Nat.reduceLeDiff, ↓reduceIte, reduceCtorEq, Int.reduceAdd, Int.reduceSub, Int.reduceMul, Int.reduceNeg, Int.reduceToNat, List.reduceReplicate, String.reduceEq, dR1, dR2, dH, k1, k3, n1, n3, m1, m3, h9, w8.1, w8.2]
  refine (rend_spec G ⟨lo, ow, q⟩ o _ hq hb hl1 ho).mono ?_
  rintro _ Ha11 ⟨rfl, hH⟩
  have hs : ∀ b ob, Ha8 b = some ob → Ha11 b = some ob := by rw [hH]; exact (by repeat (first | assumption | exact sub_refl _ | refine sub_upd ?_ (by assumption) _))
  replace k1 := hs _ _ k1
  replace k3 := hs _ _ k3
  replace k4 := hs _ _ k4
  replace k6 := hs _ _ k6
  replace v4 := v4.up hs; replace l4 := l4.up hs
  replace v8 := v8.up hs; replace l8 := l8.up hs
  have k8 : Ha11 r8 = some (.cells [.bool (endL ⟨lo, ow, q⟩ o).1.locked, dI (endL ⟨lo, ow, q⟩ o).1.owner, u8] 61) := by rw [hH]; simp [upd, dIss, h8, h9]
  have k9 : Ha11 r9 = some (.cells [.bool (endL ⟨lo, ow, q⟩ o).2.1.1, dI (endL ⟨lo, ow, q⟩ o).2.1.2.1, dI (endL ⟨lo, ow, q⟩ o).2.1.2.2] 65) := by rw [hH]; simp [upd, dIss, h8, h9]
  replace hsub : ∀ b ob, H b = some ob → Ha11 b = some ob := fun b ob hb => hs b ob (hsub b ob hb)
  clear hs hH
  simp (disch := omega) only [go_sem, Nat.reduceEqDiff, Nat.reduceAdd, Nat.reduceMul, Nat.reduceSub, Nat.reduceLeDiff, ↓reduceIte, reduceCtorEq, Int.reduceAdd, Int.reduceSub, Int.reduceMul, Int.reduceNeg, Int.reduceToNat, List.reduceReplicate, String.reduceEq, dR1, dR2, dH, k1, k3]
  intro r11 h11; dsimp only at h11
  have n1 : r1 ≠ r11 := none_ne h11 k1
  have n3 : r3 ≠ r11 := none_ne h11 k3
  have e11 := sub_none hsub h11
  simp (disch := omega) only [go_sem, Nat.reduceEqDiff, Nat.reduceAdd, Nat.reduceMul, Nat.reduceSub, Nat.reduceLeDiff, ↓reduceIte, reduceCtorEq, Int.reduceAdd, Int.reduceSub, Int.reduceMul, Int.reduceNeg, Int.reduceToNat, List.reduceReplicate, String.reduceEq, dR1, dR2, dH, k1, k3, n1, n3]
  intro r12 h12; dsimp only at h12
  simp only [upd_eq_none] at h12
  have m1 : r1 ≠ r12 := none_ne h12.2.2 k1
  have m3 : r3 ≠ r12 := none_ne h12.2.2 k3
  have g12 := h12.2.2
  have e12 := sub_none hsub g12
  simp (disch := omega) only [go_sem, Nat.reduceEqDiff, Nat.reduceAdd, Nat.reduceMul, Nat.reduceSub, Nat.reduceLeDiff, ↓reduceIte, reduceCtorEq, Int.reduceAdd, Int.reduceSub, Int.reduceMul, Int.reduceNeg, Int.reduceToNat, List.reduceReplicate, String.reduceEq, dR1, dR2, dH, k1, k3, n1, n3, m1, m3, h12]
  refine (wait_spec G ⟨lo, ow, q⟩ n o _ hq hl1 ho).mono ?_
  rintro _ Ha14 ⟨u14, rfl, hu14⟩
  have hs : ∀ b ob, Ha11 b = some ob → Ha14 b = some ob := by intro b ob hb; refine hu14.sub b ob ?_; revert b ob; exact (by repeat (first | assumption | exact sub_refl _ | refine sub_upd ?_ (by assumption) _))
  replace k1 := hs _ _ k1
  replace k3 := hs _ _ k3
  replace k4 := hs _ _ k4
  replace k6 := hs _ _ k6
  replace k8 := hs _ _ k8
  replace k9 := hs _ _ k9
  replace v4 := v4.up hs; replace l4 := l4.up hs
  replace v8 := v8.up hs; replace l8 := l8.up hs
  have k11 : Ha14 r11 = some (.cells [.bool (endL ⟨lo, ow, q⟩ o).1.locked, dI (endL ⟨lo, ow, q⟩ o).1.owner, dIss (endL ⟨lo, ow, q⟩ o).1.q] 61) := hu14.sub _ _ (by simp [upd, dIss, h11, h12])
  have k12 : Ha14 r12 = some (.cells [.bool (endL ⟨lo, ow, q⟩ o).2.1.1, dI (endL ⟨lo, ow, q⟩ o).2.1.2.1, dI (endL ⟨lo, ow, q⟩ o).2.1.2.2] 65) := hu14.sub _ _ (by simp [upd, dIss, h11, h12])
  have v14 := hu14.views
  have l14 := (hu14.lok (by have := mayQ_len (wait_q (s := ⟨lo, ow, q⟩) (n := n) (o := o)); omega) (fun l h => by have := mayQ_row wait_q h; omega)).down (H0 := H) (by first | assumption | exact (by repeat (first | assumption | exact sub_refl _ | refine sub_upd ?_ (by assumption) _)))
  have w14 := hu14.cell1
  replace hsub : ∀ b ob, H b = some ob → Ha14 b = some ob := fun b ob hb => hs b ob (hsub b ob hb)
  clear hs hu14
  simp (disch := omega) only [go_sem, Nat.reduceEqDiff, Nat.reduceAdd, Nat.reduceMul, Nat.reduceSub, Nat.reduceLeDiff, ↓reduceIte, reduceCtorEq, Int.reduceAdd, Int.reduceSub, Int.reduceMul, Int.reduceNeg, Int.reduceToNat, List.reduceReplicate, String.reduceEq, dR1, dR2, dH, k1, k3, w14.1, w14.2]
  intro r14 h14; dsimp only at h14
  have n1 : r1 ≠ r14 := none_ne h14 k1
  have n3 : r3 ≠ r14 := none_ne h14 k3
  have e14 := sub_none hsub h14
  simp (disch := omega) only [go_sem, Nat.reduceEqDiff, Nat.reduceAdd, Nat.reduceMul, Nat.reduceSub, Nat.reduceLeDiff, ↓reduceIte, reduceCtorEq, Int.reduceAdd, Int.reduceSub, Int.reduceMul, Int.reduceNeg, Int.reduceToNat, List.reduceReplicate, String.reduceEq, dR1, dR2, dH, k1, k3, n1, n3]
  intro r15 h15; dsimp only at h15
  simp only [upd_eq_none] at h15
  have m1 : r1 ≠ r15 := none_ne h15.2.2 k1
  have m3 : r3 ≠ r15 := none_ne h15.2.2 k3
  have g15 := h15.2.2
  have e15 := sub_none hsub g15
  simp (disch := omega) only [go_sem, Nat.reduceEqDiff, Nat.reduceAdd, Nat.reduceMul, Nat.reduceSub, Nat.reduceLeDiff, ↓reduceIte, reduceCtorEq, Int.reduceAdd, Int.reduceSub, Int.reduceMul, Int.reduceNeg, Int.reduceToNat, List.reduceReplicate, String.reduceEq, dR1, dR2, dH, k1, k3, n1, n3, m1, m3, h15, w14.1, w14.2]
  refine (rwait_spec G ⟨lo, ow, q⟩ n o _ hq hb hl1 ho).mono ?_
  rintro _ Ha17 ⟨rfl, hH⟩
  have hs : ∀ b ob, Ha14 b = some ob → Ha17 b = some ob := by rw [hH]; exact (by repeat (first | assumption | exact sub_refl _ | refine sub_upd ?_ (by assumption) _))
  replace k1 := hs _ _ k1
  replace k3 := hs _ _ k3
  replace k4 := hs _ _ k4
  replace k6 := hs _ _ k6
  replace k8 := hs _ _ k8
  replace k9 := hs _ _ k9
  replace k11 := hs _ _ k11
  replace k12 := hs _ _ k12
  replace v4 := v4.up hs; replace l4 := l4.up hs
  replace v8 := v8.up hs; replace l8 := l8.up hs
  replace v14 := v14.up hs; replace l14 := l14.up hs
  have k14 : Ha17 r14 = some (.cells [.bool (waitL ⟨lo, ow, q⟩ n o).1.locked, dI (waitL ⟨lo, ow, q⟩ n o).1.owner, u14] 61) := by rw [hH]; simp [upd, dIss, h14, h15]
  have k15 : Ha17 r15 = some (.cells [.bool (waitL ⟨lo, ow, q⟩ n o).2.1.1, dI (waitL ⟨lo, ow, q⟩ n o).2.1.2.1, dI (waitL ⟨lo, ow, q⟩ n o).2.1.2.2] 65) := by rw [hH]; simp [upd, dIss, h14, h15]
  replace hsub : ∀ b ob, H b = some ob → Ha17 b = some ob := fun b ob hb => hs b ob (hsub b ob hb)
  clear hs hH
  simp (disch := omega) only [go_sem, Nat.reduceEqDiff, Nat.reduceAdd, Nat.reduceMul, Nat.reduceSub, Nat.reduceLeDiff, ↓reduceIte, reduceCtorEq, Int.reduceAdd, Int.reduceSub, Int.reduceMul, Int.reduceNeg, Int.reduceToNat, List.reduceReplicate, String.reduceEq, dR1, dR2, dH, k1, k3]
  intro r17 h17; dsimp only at h17
  have n1 : r1 ≠ r17 := none_ne h17 k1
  have n3 : r3 ≠ r17 := none_ne h17 k3
  have e17 := sub_none hsub h17
  simp (disch := omega) only [go_sem, Nat.reduceEqDiff, Nat.reduceAdd, Nat.reduceMul, Nat.reduceSub, Nat.reduceLeDiff, ↓reduceIte, reduceCtorEq, Int.reduceAdd, Int.reduceSub, Int.reduceMul, Int.reduceNeg, Int.reduceToNat, List.reduceReplicate, String.reduceEq, dR1, dR2, dH, k1, k3, n1, n3]
  intro r18 h18; dsimp only at h18
  simp only [upd_eq_none] at h18
  have m1 : r1 ≠ r18 := none_ne h18.2.2 k1
  have m3 : r3 ≠ r18 := none_ne h18.2.2 k3
  have g18 := h18.2.2
  have e18 := sub_none hsub g18
  simp (disch := omega) only [go_sem, Nat.reduceEqDiff, Nat.reduceAdd, Nat.reduceMul, Nat.reduceSub, Nat.reduceLeDiff, ↓reduceIte, reduceCtorEq, Int.reduceAdd, Int.reduceSub, Int.reduceMul, Int.reduceNeg, Int.reduceToNat, List.reduceReplicate, String.reduceEq, dR1, dR2, dH, k1, k3, n1, n3, m1, m3, h18]
  refine (leave_spec G ⟨lo, ow, q⟩ t _ hq hl).mono ?_
  rintro _ Ha20 ⟨u20, rfl, hu20⟩
  have hs : ∀ b ob, Ha17 b = some ob → Ha20 b = some ob := by intro b ob hb; refine hu20.sub b ob ?_; revert b ob; exact (by repeat (first | assumption | exact sub_refl _ | refine sub_upd ?_ (by assumption) _))
  replace k1 := hs _ _ k1
  replace k3 := hs _ _ k3
  replace k4 := hs _ _ k4
  replace k6 := hs _ _ k6
  replace k8 := hs _ _ k8
  replace k9 := hs _ _ k9
  replace k11 := hs _ _ k11
  replace k12 := hs _ _ k12
  replace k14 := hs _ _ k14
  replace k15 := hs _ _ k15
  replace v4 := v4.up hs; replace l4 := l4.up hs
  replace v8 := v8.up hs; replace l8 := l8.up hs
  replace v14 := v14.up hs; replace l14 := l14.up hs
  have k17 : Ha20 r17 = some (.cells [.bool (waitL ⟨lo, ow, q⟩ n o).1.locked, dI (waitL ⟨lo, ow, q⟩ n o).1.owner, dIss (waitL ⟨lo, ow, q⟩ n o).1.q] 61) := hu20.sub _ _ (by simp [upd, dIss, h17, h18])
  have k18 : Ha20 r18 = some (.cells [.bool (waitL ⟨lo, ow, q⟩ n o).2.1.1, dI (waitL ⟨lo, ow, q⟩ n o).2.1.2.1, dI (waitL ⟨lo, ow, q⟩ n o).2.1.2.2] 65) := hu20.sub _ _ (by simp [upd, dIss, h17, h18])
  have v20 := hu20.views
  have l20 := (hu20.lok (by have := mayQ_len (leave_q (s := ⟨lo, ow, q⟩) (t := t)); omega) (fun l h => by have := mayQ_row leave_q h; omega)).down (H0 := H) (by first | assumption | exact (by repeat (first | assumption | exact sub_refl _ | refine sub_upd ?_ (by assumption) _)))
  have w20 := hu20.cell1
  replace hsub : ∀ b ob, H b = some ob → Ha20 b = some ob := fun b ob hb => hs b ob (hsub b ob hb)
  clear hs hu20
  simp (disch := omega) only [go_sem, Nat.reduceEqDiff, Nat.reduceAdd, Nat.reduceMul, Nat.reduceSub, Nat.reduceLeDiff, ↓reduceIte, reduceCtorEq, Int.reduceAdd, Int.reduceSub, Int.reduceMul, Int.reduceNeg, Int.reduceToNat, List.reduceReplicate, String.reduceEq, dR1, dR2, dH, k1, k3, w20.1, w20.2]
  intro r20 h20; dsimp only at h20
  have n1 : r1 ≠ r20 := none_ne h20 k1
  have n3 : r3 ≠ r20 := none_ne h20 k3
  have e20 := sub_none hsub h20
  simp (disch := omega) only [go_sem, Nat.reduceEqDiff, Nat.reduceAdd, Nat.reduceMul, Nat.reduceSub, Nat.reduceLeDiff, ↓reduceIte, reduceCtorEq, Int.reduceAdd, Int.reduceSub, Int.reduceMul, Int.reduceNeg, Int.reduceToNat, List.reduceReplicate, String.reduceEq, dR1, dR2, dH, k1, k3, n1, n3, w20.1, w20.2]
  refine (rleave_spec G ⟨lo, ow, q⟩ t _ hq hb hl).mono ?_
  rintro _ Ha22 ⟨rfl, hH⟩
  have hs : ∀ b ob, Ha20 b = some ob → Ha22 b = some ob := by rw [hH]; exact (by repeat (first | assumption | exact sub_refl _ | refine sub_upd ?_ (by assumption) _))
  replace k1 := hs _ _ k1
  replace k3 := hs _ _ k3
  replace k4 := hs _ _ k4
  replace k6 := hs _ _ k6
  replace k8 := hs _ _ k8
  replace k9 := hs _ _ k9
  replace k11 := hs _ _ k11
  replace k12 := hs _ _ k12
  replace k14 := hs _ _ k14
  replace k15 := hs _ _ k15
  replace k17 := hs _ _ k17
  replace k18 := hs _ _ k18
  replace v4 := v4.up hs; replace l4 := l4.up hs
  replace v8 := v8.up hs; replace l8 := l8.up hs
  replace v14 := v14.up hs; replace l14 := l14.up hs
  replace v20 := v20.up hs; replace l20 := l20.up hs
  have k20 : Ha22 r20 = some (.cells [.bool (leaveL ⟨lo, ow, q⟩ t).1.locked, dI (leaveL ⟨lo, ow, q⟩ t).1.owner, u20] 61) := by rw [hH]; simp [upd, dIss, h20]
  replace hsub : ∀ b ob, H b = some ob → Ha22 b = some ob := fun b ob hb => hs b ob (hsub b ob hb)
  clear hs hH
  simp (disch := omega) only [go_sem, Nat.reduceEqDiff, Nat.reduceAdd, Nat.reduceMul, Nat.reduceSub, Nat.reduceLeDiff, ↓reduceIte, reduceCtorEq, Int.reduceAdd, Int.reduceSub, Int.reduceMul, Int.reduceNeg, Int.reduceToNat, List.reduceReplicate, String.reduceEq, dR1, dR2, dH, k1, k3]
  intro r22 h22; dsimp only at h22
  have n1 : r1 ≠ r22 := none_ne h22 k1
  have n3 : r3 ≠ r22 := none_ne h22 k3
  have e22 := sub_none hsub h22
  simp (disch := omega) only [go_sem, Nat.reduceEqDiff, Nat.reduceAdd, Nat.reduceMul, Nat.reduceSub, Nat.reduceLeDiff, ↓reduceIte, reduceCtorEq, Int.reduceAdd, Int.reduceSub, Int.reduceMul, Int.reduceNeg, Int.reduceToNat, List.reduceReplicate, String.reduceEq, dR1, dR2, dH, k1, k3, n1, n3]
  refine (lnew_spec G k _).mono ?_
  rintro _ Ha24 ⟨rfl, hH⟩
  have hs : ∀ b ob, Ha22 b = some ob → Ha24 b = some ob := by rw [hH]; exact (by repeat (first | assumption | exact sub_refl _ | refine sub_upd ?_ (by assumption) _))
  replace k1 := hs _ _ k1
  replace k3 := hs _ _ k3
  replace k4 := hs _ _ k4
  replace k6 := hs _ _ k6
  replace k8 := hs _ _ k8
  replace k9 := hs _ _ k9
  replace k11 := hs _ _ k11
  replace k12 := hs _ _ k12
  replace k14 := hs _ _ k14
  replace k15 := hs _ _ k15
  replace k17 := hs _ _ k17
  replace k18 := hs _ _ k18
  replace k20 := hs _ _ k20
  replace v4 := v4.up hs; replace l4 := l4.up hs
  replace v8 := v8.up hs; replace l8 := l8.up hs
  replace v14 := v14.up hs; replace l14 := l14.up hs
  replace v20 := v20.up hs; replace l20 := l20.up hs
  have k22 : Ha24 r22 = some (.cells [.bool (leaveL ⟨lo, ow, q⟩ t).1.locked, dI (leaveL ⟨lo, ow, q⟩ t).1.owner, dIss (leaveL ⟨lo, ow, q⟩ t).1.q] 61) := by rw [hH]; simp [upd, dIss, h22]
  replace hsub : ∀ b ob, H b = some ob → Ha24 b = some ob := fun b ob hb => hs b ob (hsub b ob hb)
  clear hs hH
  simp (disch := omega) only [go_sem, Nat.reduceEqDiff, Nat.reduceAdd, Nat.reduceMul, Nat.reduceSub, Nat.reduceLeDiff, ↓reduceIte, reduceCtorEq, Int.reduceAdd, Int.reduceSub, Int.reduceMul, Int.reduceNeg, Int.reduceToNat, List.reduceReplicate, String.reduceEq, dR1, dR2, dH, k1, k3]
  intro r24 h24; dsimp only at h24
  have n1 : r1 ≠ r24 := none_ne h24 k1
  have n3 : r3 ≠ r24 := none_ne h24 k3
  have e24 := sub_none hsub h24
  simp (disch := omega) only [go_sem, Nat.reduceEqDiff, Nat.reduceAdd, Nat.reduceMul, Nat.reduceSub, Nat.reduceLeDiff, ↓reduceIte, reduceCtorEq, Int.reduceAdd, Int.reduceSub, Int.reduceMul, Int.reduceNeg, Int.reduceToNat, List.reduceReplicate, String.reduceEq, dR1, dR2, dH, k1, k3, n1, n3]
  refine (rlnew_spec G k _).mono ?_
  rintro _ Ha26 ⟨rfl, hH⟩
  have hs : ∀ b ob, Ha24 b = some ob → Ha26 b = some ob := by rw [hH]; exact (by repeat (first | assumption | exact sub_refl _ | refine sub_upd ?_ (by assumption) _))
  replace k1 := hs _ _ k1
  replace k3 := hs _ _ k3
  replace k4 := hs _ _ k4
  replace k6 := hs _ _ k6
  replace k8 := hs _ _ k8
  replace k9 := hs _ _ k9
  replace k11 := hs _ _ k11
  replace k12 := hs _ _ k12
  replace k14 := hs _ _ k14
  replace k15 := hs _ _ k15
  replace k17 := hs _ _ k17
  replace k18 := hs _ _ k18
  replace k20 := hs _ _ k20
  replace k22 := hs _ _ k22
  replace v4 := v4.up hs; replace l4 := l4.up hs
  replace v8 := v8.up hs; replace l8 := l8.up hs
  replace v14 := v14.up hs; replace l14 := l14.up hs
  replace v20 := v20.up hs; replace l20 := l20.up hs
  have k24 : Ha26 r24 = some (.cells [.bool (newL k).1.locked, dI (newL k).1.owner, dIss (newL k).1.q] 61) := by rw [hH]; simp [upd, dIss, h24]
  replace hsub : ∀ b ob, H b = some ob → Ha26 b = some ob := fun b ob hb => hs b ob (hsub b ob hb)
  clear hs hH
  simp (disch := omega) only [go_sem, Nat.reduceEqDiff, Nat.reduceAdd, Nat.reduceMul, Nat.reduceSub, Nat.reduceLeDiff, ↓reduceIte, reduceCtorEq, Int.reduceAdd, Int.reduceSub, Int.reduceMul, Int.reduceNeg, Int.reduceToNat, List.reduceReplicate, String.reduceEq, dR1, dR2, dH, k1, k3]
  intro r26 h26; dsimp only at h26
  have n1 : r1 ≠ r26 := none_ne h26 k1
  have n3 : r3 ≠ r26 := none_ne h26 k3
  have e26 := sub_none hsub h26
  have x4 : r4 ≠ r26 := none_ne h26 k4
  have x6 : r6 ≠ r26 := none_ne h26 k6
  have x8 : r8 ≠ r26 := none_ne h26 k8
  have x9 : r9 ≠ r26 := none_ne h26 k9
  have x11 : r11 ≠ r26 := none_ne h26 k11
  have x12 : r12 ≠ r26 := none_ne h26 k12
  have x14 : r14 ≠ r26 := none_ne h26 k14
  have x15 : r15 ≠ r26 := none_ne h26 k15
  have x17 : r17 ≠ r26 := none_ne h26 k17
  have x18 : r18 ≠ r26 := none_ne h26 k18
  have x20 : r20 ≠ r26 := none_ne h26 k20
  have x22 : r22 ≠ r26 := none_ne h26 k22
  have x24 : r24 ≠ r26 := none_ne h26 k24
  simp (disch := omega) only [go_sem, Nat.reduceEqDiff, Nat.reduceAdd, Nat.reduceMul, Nat.reduceSub, Nat.reduceLeDiff, ↓reduceIte, reduceCtorEq, Int.reduceAdd, Int.reduceSub, Int.reduceMul, Int.reduceNeg, Int.reduceToNat, List.reduceReplicate, String.reduceEq, dR1, dR2, dH, k1, k3, n1, n3, k4, x4, k6, x6, k8, x8, k9, x9, k11, x11, k12, x12, k14, x14, k15, x15, k17, x17, k18, x18, k20, x20, k22, x22, k24, x24, w4.1, w4.2, w8.1, w8.2, w14.1, w14.2, w20.1, w20.2]
  refine (lsame_spec G hG (beginL ⟨lo, ow, q⟩ t p c).1 (beginL ⟨lo, ow, q⟩ t p c).1 u4 (dIss (beginL ⟨lo, ow, q⟩ t p c).1.q) _ (v4.up ?vv) (.frozen _ _) w4 ⟨rfl, rfl⟩ (by have := mayQ_len (begin_q : mayQ (beginL ⟨lo, ow, q⟩ t p c).1.q = true); omega) (by have := mayQ_len (begin_q : mayQ (beginL ⟨lo, ow, q⟩ t p c).1.q = true); omega) (fun l h => by have := mayQ_row (begin_q : mayQ (beginL ⟨lo, ow, q⟩ t p c).1.q = true) h; omega) (fun l h => by have := mayQ_row (begin_q : mayQ (beginL ⟨lo, ow, q⟩ t p c).1.q = true) h; omega)).mono ?_
  case vv => exact (by repeat (first | assumption | exact sub_refl _ | refine sub_upd ?_ (by assumption) _))
  rintro _ Hf ⟨rfl, hH⟩
  have hs : ∀ b ob, Ha26 b = some ob → Hf b = some ob := by rw [hH]; exact (by repeat (first | assumption | exact sub_refl _ | refine sub_upd ?_ (by assumption) _))
  replace k1 := hs _ _ k1
  replace k3 := hs _ _ k3
  replace k4 := hs _ _ k4
  replace k6 := hs _ _ k6
  replace k8 := hs _ _ k8
  replace k9 := hs _ _ k9
  replace k11 := hs _ _ k11
  replace k12 := hs _ _ k12
  replace k14 := hs _ _ k14
  replace k15 := hs _ _ k15
  replace k17 := hs _ _ k17
  replace k18 := hs _ _ k18
  replace k20 := hs _ _ k20
  replace k22 := hs _ _ k22
  replace k24 := hs _ _ k24
  replace v4 := v4.up hs; replace l4 := l4.up hs
  replace v8 := v8.up hs; replace l8 := l8.up hs
  replace v14 := v14.up hs; replace l14 := l14.up hs
  replace v20 := v20.up hs; replace l20 := l20.up hs
  have k26 : Hf r26 = some (.cells [.bool (newL k).1.locked, dI (newL k).1.owner, dIss (newL k).1.q] 61) := by rw [hH]; simp [upd, dIss]
  replace hsub : ∀ b ob, H b = some ob → Hf b = some ob := fun b ob hb => hs b ob (hsub b ob hb)
  clear hs hH
  rw [decide_eq_true ⟨rfl, rfl, rfl⟩]
  simp (disch := omega) only [go_sem, Nat.reduceEqDiff, Nat.reduceAdd, Nat.reduceMul, Nat.reduceSub, Nat.reduceLeDiff, ↓reduceIte, reduceCtorEq, Int.reduceAdd, Int.reduceSub, Int.reduceMul, Int.reduceNeg, Int.reduceToNat, List.reduceReplicate, String.reduceEq, dR1, dR2, dH, k1, k3, k4, k6, k8, k9, k11, k12, k14, k15, k17, k18, k20, k22, k24, k26]
  refine (lsame_spec G hG (endL ⟨lo, ow, q⟩ o).1 (endL ⟨lo, ow, q⟩ o).1 u8 (dIss (endL ⟨lo, ow, q⟩ o).1.q) _ v8 (.frozen _ _) w8 ⟨rfl, rfl⟩ (by have := mayQ_len (end_q : mayQ (endL ⟨lo, ow, q⟩ o).1.q = true); omega) (by have := mayQ_len (end_q : mayQ (endL ⟨lo, ow, q⟩ o).1.q = true); omega) (fun l h => by have := mayQ_row (end_q : mayQ (endL ⟨lo, ow, q⟩ o).1.q = true) h; omega) (fun l h => by have := mayQ_row (end_q : mayQ (endL ⟨lo, ow, q⟩ o).1.q = true) h; omega)).mono ?_
  rintro _ H9 ⟨rfl, rfl⟩
  rw [decide_eq_true ⟨rfl, rfl, rfl⟩]
  simp (disch := omega) only [go_sem, Nat.reduceEqDiff, Nat.reduceAdd, Nat.reduceMul, Nat.reduceSub, Nat.reduceLeDiff, ↓reduceIte, reduceCtorEq, Int.reduceAdd, Int.reduceSub, Int.reduceMul, Int.reduceNeg, Int.reduceToNat, List.reduceReplicate, String.reduceEq, dR1, dR2, dH, k1, k3, k4, k6, k8, k9, k11, k12, k14, k15, k17, k18, k20, k22, k24, k26]
  refine (lsame_spec G hG (waitL ⟨lo, ow, q⟩ n o).1 (waitL ⟨lo, ow, q⟩ n o).1 u14 (dIss (waitL ⟨lo, ow, q⟩ n o).1.q) _ v14 (.frozen _ _) w14 ⟨rfl, rfl⟩ (by have := mayQ_len (wait_q : mayQ (waitL ⟨lo, ow, q⟩ n o).1.q = true); omega) (by have := mayQ_len (wait_q : mayQ (waitL ⟨lo, ow, q⟩ n o).1.q = true); omega) (fun l h => by have := mayQ_row (wait_q : mayQ (waitL ⟨lo, ow, q⟩ n o).1.q = true) h; omega) (fun l h => by have := mayQ_row (wait_q : mayQ (waitL ⟨lo, ow, q⟩ n o).1.q = true) h; omega)).mono ?_
  rintro _ H9 ⟨rfl, rfl⟩
  rw [decide_eq_true ⟨rfl, rfl, rfl⟩]
  simp (disch := omega) only [go_sem, Nat.reduceEqDiff, Nat.reduceAdd, Nat.reduceMul, Nat.reduceSub, Nat.reduceLeDiff, ↓reduceIte, reduceCtorEq, Int.reduceAdd, Int.reduceSub, Int.reduceMul, Int.reduceNeg, Int.reduceToNat, List.reduceReplicate, String.reduceEq, dR1, dR2, dH, k1, k3, k4, k6, k8, k9, k11, k12, k14, k15, k17, k18, k20, k22, k24, k26]
  refine dwp_draws (by kernel_rfl) (.take 0 (.take 1 (.go 2 [] (.take 3 (.take 4 (.take 5 (.take 6 (.take 7 (.take 8 (.take 9 (.take 10 (.go 11 [1, 0] (.take 12 (.take 13 (.take 14 (.take 15 (.take 16 (.take 17 (.take 18 (.take 19 (.take 21 (.take 22 (.go 20 [22, 10, 9, 1, 0] (.go 23 [19, 10, 9, 1, 0] (.take 24 (.take 25 (.take 26 (.take 27 (.take 28 (.take 29 (.take 30 (.take 32 (.take 33 (.take 34 (.take 35 (.go 31 [35, 33, 22, 19, 10, 9, 1, 0] (.go 36 [30, 28, 22, 19, 10, 9, 1, 0] (.take 37 (.take 38 (.take 39 .done)))))))))))))))))))))))))))))))))))))))) (by kernel_rfl) ?_
  simp (disch := omega) only [go_sem, Nat.reduceEqDiff, Nat.reduceAdd, Nat.reduceMul, Nat.reduceSub, Nat.reduceLeDiff, ↓reduceIte, reduceCtorEq, Int.reduceAdd, Int.reduceSub, Int.reduceMul, Int.reduceNeg, Int.reduceToNat, List.reduceReplicate, String.reduceEq, KeepK, dR1, dR2, dH, dIss, dIs, dBs, k1, k3, k4, k6, k8, k9, k11, k12, k14, k15, k17, k18, k20, k22, k24, k26, w4.1, w4.2, w8.1, w8.2, w14.1, w14.2, w20.1, w20.2]
  refine (lsame_spec G hG (leaveL ⟨lo, ow, q⟩ t).1 (leaveL ⟨lo, ow, q⟩ t).1 u20 (dIss (leaveL ⟨lo, ow, q⟩ t).1.q) _ v20 (.frozen _ _) w20 ⟨rfl, rfl⟩ (by have := mayQ_len (leave_q : mayQ (leaveL ⟨lo, ow, q⟩ t).1.q = true); omega) (by have := mayQ_len (leave_q : mayQ (leaveL ⟨lo, ow, q⟩ t).1.q = true); omega) (fun l h => by have := mayQ_row (leave_q : mayQ (leaveL ⟨lo, ow, q⟩ t).1.q = true) h; omega) (fun l h => by have := mayQ_row (leave_q : mayQ (leaveL ⟨lo, ow, q⟩ t).1.q = true) h; omega)).mono ?_
  rintro _ H9 ⟨rfl, rfl⟩
  rw [decide_eq_true ⟨rfl, rfl, rfl⟩]
  simp (disch := omega) only [go_sem, Nat.reduceEqDiff, Nat.reduceAdd, Nat.reduceMul, Nat.reduceSub, Nat.reduceLeDiff, ↓reduceIte, reduceCtorEq, Int.reduceAdd, Int.reduceSub, Int.reduceMul, Int.reduceNeg, Int.reduceToNat, List.reduceReplicate, String.reduceEq, KeepK, dR1, dR2, dH, dIss, dIs, dBs, k1, k3, k4, k6, k8, k9, k11, k12, k14, k15, k17, k18, k20, k22, k24, k26, w4.1, w4.2, w8.1, w8.2, w14.1, w14.2, w20.1, w20.2]
  refine (fsame_spec G hG (newL k).1 (newL k).1 _ (by have := mayQ_len (new_q (n := k)); omega) (by have := mayQ_len (new_q (n := k)); omega) (fun l h => by have := mayQ_row (new_q (n := k)) h; omega) (fun l h => by have := mayQ_row (new_q (n := k)) h; omega)).mono ?_
  rintro _ H9 ⟨rfl, rfl⟩
  rw [decide_eq_true ⟨rfl, rfl, rfl⟩]
  simp (disch := omega) only [go_sem, Nat.reduceEqDiff, Nat.reduceAdd, Nat.reduceMul, Nat.reduceSub, Nat.reduceLeDiff, ↓reduceIte, reduceCtorEq, Int.reduceAdd, Int.reduceSub, Int.reduceMul, Int.reduceNeg, Int.reduceToNat, List.reduceReplicate, String.reduceEq, KeepK, dR1, dR2, dH, dIss, dIs, dBs, k1, k3, k4, k6, k8, k9, k11, k12, k14, k15, k17, k18, k20, k22, k24, k26, w4.1, w4.2, w8.1, w8.2, w14.1, w14.2, w20.1, w20.2]
  refine (lmay_spec G ⟨lo, ow, q⟩ _ hq hl1).mono ?_
  rintro _ H9 ⟨rfl, rfl⟩
  simp (disch := omega) only [go_sem, Nat.reduceEqDiff, Nat.reduceAdd, Nat.reduceMul, Nat.reduceSub, Nat.reduceLeDiff, ↓reduceIte, reduceCtorEq, Int.reduceAdd, Int.reduceSub, Int.reduceMul, Int.reduceNeg, Int.reduceToNat, List.reduceReplicate, String.reduceEq, KeepK, dR1, dR2, dH, dIss, dIs, dBs, k1, k3, k4, k6, k8, k9, k11, k12, k14, k15, k17, k18, k20, k22, k24, k26, w4.1, w4.2, w8.1, w8.2, w14.1, w14.2, w20.1, w20.2]
  refine (rlmay_spec G ⟨lo, ow, q⟩ _ hq hb hl1).mono ?_
  rintro _ H9 ⟨rfl, rfl⟩
  simp (disch := omega) only [go_sem, Nat.reduceEqDiff, Nat.reduceAdd, Nat.reduceMul, Nat.reduceSub, Nat.reduceLeDiff, ↓reduceIte, reduceCtorEq, Int.reduceAdd, Int.reduceSub, Int.reduceMul, Int.reduceNeg, Int.reduceToNat, List.reduceReplicate, String.reduceEq, KeepK, dR1, dR2, dH, dIss, dIs, dBs, k1, k3, k4, k6, k8, k9, k11, k12, k14, k15, k17, k18, k20, k22, k24, k26, w4.1, w4.2, w8.1, w8.2, w14.1, w14.2, w20.1, w20.2]
  refine (active_spec G p l _ hll).mono ?_
  rintro _ H9 ⟨rfl, rfl⟩
  simp (disch := omega) only [go_sem, Nat.reduceEqDiff, Nat.reduceAdd, Nat.reduceMul, Nat.reduceSub, Nat.reduceLeDiff, ↓reduceIte, reduceCtorEq, Int.reduceAdd, Int.reduceSub, Int.reduceMul, Int.reduceNeg, Int.reduceToNat, List.reduceReplicate, String.reduceEq, KeepK, dR1, dR2, dH, dIss, dIs, dBs, k1, k3, k4, k6, k8, k9, k11, k12, k14, k15, k17, k18, k20, k22, k24, k26, w4.1, w4.2, w8.1, w8.2, w14.1, w14.2, w20.1, w20.2]
  refine (ractive_spec G p l _ (by omega)).mono ?_
  rintro _ H9 ⟨rfl, rfl⟩
  simp (disch := omega) only [go_sem, Nat.reduceEqDiff, Nat.reduceAdd, Nat.reduceMul, Nat.reduceSub, Nat.reduceLeDiff, ↓reduceIte, reduceCtorEq, Int.reduceAdd, Int.reduceSub, Int.reduceMul, Int.reduceNeg, Int.reduceToNat, List.reduceReplicate, String.reduceEq, KeepK, dR1, dR2, dH, dIss, dIs, dBs, k1, k3, k4, k6, k8, k9, k11, k12, k14, k15, k17, k18, k20, k22, k24, k26, w4.1, w4.2, w8.1, w8.2, w14.1, w14.2, w20.1, w20.2]
  have hrep : repl 4 [DVal.bool false, DVal.int .i64 0, DVal.nilSlice] = [DVal.bool false, DVal.int .i64 0, DVal.nilSlice, DVal.bool false, DVal.int .i64 0, DVal.nilSlice, DVal.bool false, DVal.int .i64 0, DVal.nilSlice, DVal.bool false, DVal.int .i64 0, DVal.nilSlice] := rfl
  simp (disch := omega) only [go_sem, Nat.reduceEqDiff, Nat.reduceAdd, Nat.reduceMul, Nat.reduceSub, Nat.reduceLeDiff, ↓reduceIte, reduceCtorEq, Int.reduceAdd, Int.reduceSub, Int.reduceMul, Int.reduceNeg, Int.reduceToNat, List.reduceReplicate, String.reduceEq, KeepK, dR1, dR2, dH, dIss, dIs, dBs, k1, k3, k4, k6, k8, k9, k11, k12, k14, k15, k17, k18, k20, k22, k24, k26, w4.1, w4.2, w8.1, w8.2, w14.1, w14.2, w20.1, w20.2, hrep]
  intro rb hb; dsimp only at hb
  simp (disch := omega) only [go_sem, Nat.reduceEqDiff, Nat.reduceAdd, Nat.reduceMul, Nat.reduceSub, Nat.reduceLeDiff, ↓reduceIte, reduceCtorEq, Int.reduceAdd, Int.reduceSub, Int.reduceMul, Int.reduceNeg, Int.reduceToNat, List.reduceReplicate, String.reduceEq]
  generalize hcs : [DVal.bool (beginL ⟨lo, ow, q⟩ t p c).1.locked, dI (beginL ⟨lo, ow, q⟩ t p c).1.owner, u4, DVal.bool (endL ⟨lo, ow, q⟩ o).1.locked, dI (endL ⟨lo, ow, q⟩ o).1.owner, u8, DVal.bool (waitL ⟨lo, ow, q⟩ n o).1.locked, dI (waitL ⟨lo, ow, q⟩ n o).1.owner, u14, DVal.bool (leaveL ⟨lo, ow, q⟩ t).1.locked, dI (leaveL ⟨lo, ow, q⟩ t).1.owner, u20] = cs
  have hcl : cs.length = 12 := by rw [← hcs]; rfl
  obtain ⟨Hx, hHx⟩ : ∃ Hx, upd H9 rb (some (.cells cs 61)) = Hx := ⟨_, rfl⟩
  have hs : ∀ b ob, H9 b = some ob → Hx b = some ob := by rw [← hHx]; exact (by repeat (first | assumption | exact sub_refl _ | refine sub_upd ?_ (by assumption) _))
  have hxb : Hx rb = some (.cells cs 61) := by rw [← hHx]; simp [upd]
  replace k1 := hs _ _ k1
  replace k3 := hs _ _ k3
  replace hsub : ∀ b ob, H b = some ob → Hx b = some ob := fun b ob hb => hs b ob (hsub b ob hb)
  have hok : ∀ j : Nat, j < 4 → ∃ b i v, (cs.drop (j * 3)).take 3 = [.bool b, dI i, v] ∧ LOk 3 37 H Hx v ∧ v.one = true ∧ v.cells = [v] := by
    intro j hj
    rw [← hcs]
    rcases (by omega : j = 0 ∨ j = 1 ∨ j = 2 ∨ j = 3) with rfl | rfl | rfl | rfl
    · exact ⟨_, _, u4, rfl, l4.up hs, w4.2, w4.1⟩
    · exact ⟨_, _, u8, rfl, l8.up hs, w8.2, w8.1⟩
    · exact ⟨_, _, u14, rfl, l14.up hs, w14.2, w14.1⟩
    · exact ⟨_, _, u20, rfl, l20.up hs, w20.2, w20.1⟩
  rw [hHx]
  clear hHx hcs hs hb
  obtain ⟨I, hI⟩ : ∃ I : Nat → (Nat → DVal) → DHeap → Prop, ∀ j env heap, I j env heap ↔ (env 1 = .optr r1 0 ∧ env 3 = .optr r3 0 ∧ env 28 = .bool true ∧ env 29 = .bool true ∧ env 211 = .oslice 3 rb 0 4 4 ∧ env 212 = dI 4 ∧ env 213 = dI j ∧ j ≤ 4 ∧ Scr 3 H Hx heap) := ⟨_, fun _ _ _ => Iff.rfl⟩
  refine DLoop.run I (fun j => 4 - j) 0 ((hI _ _ _).2 ?_) ?_
  · simp (disch := omega) only [go_sem, Nat.reduceEqDiff, Nat.reduceAdd, Nat.reduceMul, Nat.reduceSub, Nat.reduceLeDiff, ↓reduceIte, reduceCtorEq, Int.reduceAdd, Int.reduceSub, Int.reduceMul, Int.reduceNeg, Int.reduceToNat, List.reduceReplicate, String.reduceEq]
    (repeat' apply And.intro) <;> (try first | rfl | assumption | omega)
    exact Scr.refl _ _ _
  · intro j env heap hj
    obtain ⟨g1, g3, g28, g29, g211, g212, g213, hj4, hscr⟩ := (hI _ _ _).1 hj
    have y1 := hscr.other (by decide) k1
    have y3 := hscr.other (by decide) k3
    by_cases hlt : j < 4
    · obtain ⟨b, i0, v, hE, hv, hv1, hvc⟩ := hok j hlt
      have hob := hscr.other (by decide) hxb
      simp (disch := omega) only [go_sem, Nat.reduceEqDiff, Nat.reduceAdd, Nat.reduceMul, Nat.reduceSub, Nat.reduceLeDiff, ↓reduceIte, reduceCtorEq, Int.reduceAdd, Int.reduceSub, Int.reduceMul, Int.reduceNeg, Int.reduceToNat, List.reduceReplicate, String.reduceEq, g1, g3, g28, g29, g211, g212, g213, hob, hE, hcl]
      intro r31 h31; dsimp only at h31
      simp (disch := omega) only [go_sem, Nat.reduceEqDiff, Nat.reduceAdd, Nat.reduceMul, Nat.reduceSub, Nat.reduceLeDiff, ↓reduceIte, reduceCtorEq, Int.reduceAdd, Int.reduceSub, Int.reduceMul, Int.reduceNeg, Int.reduceToNat, List.reduceReplicate, String.reduceEq, hv1, hvc]
      have hx31 : Hx r31 = none := by
        rcases hscr r31 with h | ⟨_, _, _, _, h, _⟩
        · rw [← h]; exact h31
        · rw [h31] at h; cases h
      have d1 : r1 ≠ r31 := none_ne hx31 k1
      have d3 : r3 ≠ r31 := none_ne hx31 k3
      have db : rb ≠ r31 := none_ne hx31 hxb
      rcases hv with rfl | ⟨ro, vs, rfl, hxo, hvs, hvl⟩
      · obtain ⟨J, hJ⟩ : ∃ J : Nat → (Nat → DVal) → DHeap → Prop, ∀ m env heap, J m env heap ↔ (env 1 = .optr r1 0 ∧ env 3 = .optr r3 0 ∧ env 28 = .bool true ∧ env 29 = .bool true ∧ env 211 = .oslice 3 rb 0 4 4 ∧ env 212 = dI 4 ∧ env 213 = dI j ∧ env 218 = .nilSlice ∧ env 219 = dI 0 ∧ env 220 = dI 0 ∧ ∃ hh, Scr 3 H Hx hh ∧ hh r31 = none ∧ heap = upd hh r31 (some (.cells [.bool b, dI i0, .nilSlice] 61))) := ⟨_, fun _ _ _ => Iff.rfl⟩
        refine DLoop.run J (fun _ => 0) 0 ((hJ _ _ _).2 ?_) ?_
        · simp (disch := omega) only [go_sem, Nat.reduceEqDiff, Nat.reduceAdd, Nat.reduceMul, Nat.reduceSub, Nat.reduceLeDiff, ↓reduceIte, reduceCtorEq, Int.reduceAdd, Int.reduceSub, Int.reduceMul, Int.reduceNeg, Int.reduceToNat, List.reduceReplicate, String.reduceEq, g1, g3, g28, g29, g211, g212, g213]
          (repeat' apply And.intro) <;> (try first | rfl | assumption | omega)
          exact ⟨heap, hscr, h31, rfl⟩
        · intro m env heap hm
          obtain ⟨g1, g3, g28, g29, g211, g212, g213, i218, i219, i220, hh, hscr, hh31, rfl⟩ := (hJ _ _ _).1 hm
          simp (disch := omega) only [go_sem, Nat.reduceEqDiff, Nat.reduceAdd, Nat.reduceMul, Nat.reduceSub, Nat.reduceLeDiff, ↓reduceIte, reduceCtorEq, Int.reduceAdd, Int.reduceSub, Int.reduceMul, Int.reduceNeg, Int.reduceToNat, List.reduceReplicate, String.reduceEq, i218, i219, i220, g1, g3, g28, g29, g211, g212, g213]
          refine ⟨j + 1, _, GhostS.drop _ r31, (hI _ _ _).2 ?_, by omega⟩
          simp (disch := omega) only [go_sem, Nat.reduceEqDiff, Nat.reduceAdd, Nat.reduceMul, Nat.reduceSub, Nat.reduceLeDiff, ↓reduceIte, reduceCtorEq, Int.reduceAdd, Int.reduceSub, Int.reduceMul, Int.reduceNeg, Int.reduceToNat, List.reduceReplicate, String.reduceEq, i218, i219, i220, g1, g3, g28, g29, g211, g212, g213]
          (repeat' apply And.intro) <;> (try first | rfl | assumption | omega)
          rw [upd_self hh31]; exact hscr
      · have do' : ro ≠ r31 := none_ne hx31 hxo
        obtain ⟨J, hJ⟩ : ∃ J : Nat → (Nat → DVal) → DHeap → Prop, ∀ m env heap, J m env heap ↔ (env 1 = .optr r1 0 ∧ env 3 = .optr r3 0 ∧ env 28 = .bool true ∧ env 29 = .bool true ∧ env 211 = .oslice 3 rb 0 4 4 ∧ env 212 = dI 4 ∧ env 213 = dI j ∧ env 218 = .oslice 1 ro 0 vs.length vs.length ∧ env 219 = dI vs.length ∧ env 220 = dI m ∧ m ≤ vs.length ∧ ∃ hh, Scr 3 H Hx hh ∧ hh r31 = none ∧ heap = upd hh r31 (some (.cells [.bool b, dI i0, .oslice 1 ro 0 vs.length vs.length] 61))) := ⟨_, fun _ _ _ => Iff.rfl⟩
        refine DLoop.run J (fun m => vs.length - m) 0 ((hJ _ _ _).2 ?_) ?_
        · simp (disch := omega) only [go_sem, Nat.reduceEqDiff, Nat.reduceAdd, Nat.reduceMul, Nat.reduceSub, Nat.reduceLeDiff, ↓reduceIte, reduceCtorEq, Int.reduceAdd, Int.reduceSub, Int.reduceMul, Int.reduceNeg, Int.reduceToNat, List.reduceReplicate, String.reduceEq, g1, g3, g28, g29, g211, g212, g213]
          (repeat' apply And.intro) <;> (try first | rfl | assumption | omega)
          exact ⟨heap, hscr, h31, rfl⟩
        · intro m env heap hm
          obtain ⟨g1, g3, g28, g29, g211, g212, g213, i218, i219, i220, hml, hh, hscr, hh31, rfl⟩ := (hJ _ _ _).1 hm
          by_cases hltm : m < vs.length
          · have hvm : vs[m]? = some vs[m] := List.getElem?_eq_getElem hltm
            have hoo := hscr.other (by decide) hxo
            obtain ⟨hvok, hone, hcell⟩ := hvs vs[m] (List.getElem_mem hltm)
            generalize vs[m] = v at hvm hvok hone hcell
            rcases hvok with rfl | ⟨r, off, len, lo2, cs2, hnr, hxr, rfl, hle, hll2⟩
            · simp (disch := omega) only [go_sem, Nat.reduceEqDiff, Nat.reduceAdd, Nat.reduceMul, Nat.reduceSub, Nat.reduceLeDiff, ↓reduceIte, reduceCtorEq, Int.reduceAdd, Int.reduceSub, Int.reduceMul, Int.reduceNeg, Int.reduceToNat, List.reduceReplicate, String.reduceEq, i218, i219, i220, g1, g3, g28, g29, g211, g212, g213, hoo, hvm, do']
              obtain ⟨K, hK⟩ : ∃ K : Nat → (Nat → DVal) → DHeap → Prop, ∀ x env heap, K x env heap ↔ (env 1 = .optr r1 0 ∧ env 3 = .optr r3 0 ∧ env 28 = .bool true ∧ env 29 = .bool true ∧ env 211 = .oslice 3 rb 0 4 4 ∧ env 212 = dI 4 ∧ env 213 = dI j ∧ env 218 = .oslice 1 ro 0 vs.length vs.length ∧ env 219 = dI vs.length ∧ env 220 = dI m ∧ env 33 = .nilSlice ∧ env 225 = dI 0 ∧ env 226 = dI 0 ∧ ∃ hh, Scr 3 H Hx hh ∧ hh r31 = none ∧ heap = upd hh r31 (some (.cells [.bool b, dI i0, .oslice 1 ro 0 vs.length vs.length] 61))) := ⟨_, fun _ _ _ => Iff.rfl⟩
              refine DLoop.run K (fun _ => 0) 0 ((hK _ _ _).2 ?_) ?_
              · simp (disch := omega) only [go_sem, Nat.reduceEqDiff, Nat.reduceAdd, Nat.reduceMul, Nat.reduceSub, Nat.reduceLeDiff, ↓reduceIte, reduceCtorEq, Int.reduceAdd, Int.reduceSub, Int.reduceMul, Int.reduceNeg, Int.reduceToNat, List.reduceReplicate, String.reduceEq, i218, i219, i220, g1, g3, g28, g29, g211, g212, g213]
                (repeat' apply And.intro) <;> (try first | rfl | assumption | omega)
                exact ⟨hh, hscr, hh31, rfl⟩
              · intro x env heap hx
                obtain ⟨g1, g3, g28, g29, g211, g212, g213, i218, i219, i220, k33, k225, k226, hh, hscr, hh31, rfl⟩ := (hK _ _ _).1 hx
                simp (disch := omega) only [go_sem, Nat.reduceEqDiff, Nat.reduceAdd, Nat.reduceMul, Nat.reduceSub, Nat.reduceLeDiff, ↓reduceIte, reduceCtorEq, Int.reduceAdd, Int.reduceSub, Int.reduceMul, Int.reduceNeg, Int.reduceToNat, List.reduceReplicate, String.reduceEq, k33, k225, k226, i218, i219, i220, g1, g3, g28, g29, g211, g212, g213]
                refine ⟨m + 1, _, GhostS.refl _, (hJ _ _ _).2 ?_, by omega⟩
                simp (disch := omega) only [go_sem, Nat.reduceEqDiff, Nat.reduceAdd, Nat.reduceMul, Nat.reduceSub, Nat.reduceLeDiff, ↓reduceIte, reduceCtorEq, Int.reduceAdd, Int.reduceSub, Int.reduceMul, Int.reduceNeg, Int.reduceToNat, List.reduceReplicate, String.reduceEq, k33, k225, k226, i218, i219, i220, g1, g3, g28, g29, g211, g212, g213]
                (repeat' apply And.intro) <;> (try first | rfl | assumption | omega)
                exact ⟨hh, hscr, hh31, rfl⟩
            · have dr : r ≠ r31 := none_ne hx31 hxr
              simp (disch := omega) only [go_sem, Nat.reduceEqDiff, Nat.reduceAdd, Nat.reduceMul, Nat.reduceSub, Nat.reduceLeDiff, ↓reduceIte, reduceCtorEq, Int.reduceAdd, Int.reduceSub, Int.reduceMul, Int.reduceNeg, Int.reduceToNat, List.reduceReplicate, String.reduceEq, i218, i219, i220, g1, g3, g28, g29, g211, g212, g213, hoo, hvm, do']
              obtain ⟨K, hK⟩ : ∃ K : Nat → (Nat → DVal) → DHeap → Prop, ∀ x env heap, K x env heap ↔ (env 1 = .optr r1 0 ∧ env 3 = .optr r3 0 ∧ env 28 = .bool true ∧ env 29 = .bool true ∧ env 211 = .oslice 3 rb 0 4 4 ∧ env 212 = dI 4 ∧ env 213 = dI j ∧ env 218 = .oslice 1 ro 0 vs.length vs.length ∧ env 219 = dI vs.length ∧ env 220 = dI m ∧ env 33 = .oslice 1 r off len lo2 ∧ env 225 = dI len ∧ env 226 = dI x ∧ x ≤ len ∧ ∃ hh, Scr 3 H Hx hh ∧ hh r31 = none ∧ heap = upd hh r31 (some (.cells [.bool b, dI i0, .oslice 1 ro 0 vs.length vs.length] 61))) := ⟨_, fun _ _ _ => Iff.rfl⟩
              refine DLoop.run K (fun x => len - x) 0 ((hK _ _ _).2 ?_) ?_
              · simp (disch := omega) only [go_sem, Nat.reduceEqDiff, Nat.reduceAdd, Nat.reduceMul, Nat.reduceSub, Nat.reduceLeDiff, ↓reduceIte, reduceCtorEq, Int.reduceAdd, Int.reduceSub, Int.reduceMul, Int.reduceNeg, Int.reduceToNat, List.reduceReplicate, String.reduceEq, i218, i219, i220, g1, g3, g28, g29, g211, g212, g213]
                (repeat' apply And.intro) <;> (try first | rfl | assumption | omega)
                exact ⟨hh, hscr, hh31, rfl⟩
              · intro x env heap hx
                obtain ⟨g1, g3, g28, g29, g211, g212, g213, i218, i219, i220, k33, k225, k226, hxl, hh, hscr, hh31, rfl⟩ := (hK _ _ _).1 hx
                by_cases hltx : x < len
                · obtain ⟨cs', hcs, hcl2⟩ := hscr.row hxr
                  have hix : off + x < cs'.length := by omega
                  simp (disch := omega) only [go_sem, Nat.reduceEqDiff, Nat.reduceAdd, Nat.reduceMul, Nat.reduceSub, Nat.reduceLeDiff, ↓reduceIte, reduceCtorEq, Int.reduceAdd, Int.reduceSub, Int.reduceMul, Int.reduceNeg, Int.reduceToNat, List.reduceReplicate, String.reduceEq, k33, k225, k226, i218, i219, i220, g1, g3, g28, g29, g211, g212, g213, hcs, dr]
                  refine ⟨x + 1, _, GhostS.refl _, (hK _ _ _).2 ?_, by omega⟩
                  simp (disch := omega) only [go_sem, Nat.reduceEqDiff, Nat.reduceAdd, Nat.reduceMul, Nat.reduceSub, Nat.reduceLeDiff, ↓reduceIte, reduceCtorEq, Int.reduceAdd, Int.reduceSub, Int.reduceMul, Int.reduceNeg, Int.reduceToNat, List.reduceReplicate, String.reduceEq, k33, k225, k226, i218, i219, i220, g1, g3, g28, g29, g211, g212, g213, hcs, dr]
                  (repeat' apply And.intro) <;> (try first | rfl | assumption | omega)
                  refine ⟨_, hscr.set hnr hxr (cs' := splice cs' (off + x) [dI 77]) (by rw [splice_setD _ _ _ hix, List.length_set, hcl2]), by simp [upd, dr.symm, hh31], upd_swap dr _ _ _⟩
                · simp (disch := omega) only [go_sem, Nat.reduceEqDiff, Nat.reduceAdd, Nat.reduceMul, Nat.reduceSub, Nat.reduceLeDiff, ↓reduceIte, reduceCtorEq, Int.reduceAdd, Int.reduceSub, Int.reduceMul, Int.reduceNeg, Int.reduceToNat, List.reduceReplicate, String.reduceEq, k33, k225, k226, i218, i219, i220, g1, g3, g28, g29, g211, g212, g213]
                  refine ⟨m + 1, _, GhostS.refl _, (hJ _ _ _).2 ?_, by omega⟩
                  simp (disch := omega) only [go_sem, Nat.reduceEqDiff, Nat.reduceAdd, Nat.reduceMul, Nat.reduceSub, Nat.reduceLeDiff, ↓reduceIte, reduceCtorEq, Int.reduceAdd, Int.reduceSub, Int.reduceMul, Int.reduceNeg, Int.reduceToNat, List.reduceReplicate, String.reduceEq, k33, k225, k226, i218, i219, i220, g1, g3, g28, g29, g211, g212, g213]
                  (repeat' apply And.intro) <;> (try first | rfl | assumption | omega)
                  exact ⟨hh, hscr, hh31, rfl⟩
          · simp (disch := omega) only [go_sem, Nat.reduceEqDiff, Nat.reduceAdd, Nat.reduceMul, Nat.reduceSub, Nat.reduceLeDiff, ↓reduceIte, reduceCtorEq, Int.reduceAdd, Int.reduceSub, Int.reduceMul, Int.reduceNeg, Int.reduceToNat, List.reduceReplicate, String.reduceEq, i218, i219, i220, g1, g3, g28, g29, g211, g212, g213]
            refine ⟨j + 1, _, GhostS.drop _ r31, (hI _ _ _).2 ?_, by omega⟩
            simp (disch := omega) only [go_sem, Nat.reduceEqDiff, Nat.reduceAdd, Nat.reduceMul, Nat.reduceSub, Nat.reduceLeDiff, ↓reduceIte, reduceCtorEq, Int.reduceAdd, Int.reduceSub, Int.reduceMul, Int.reduceNeg, Int.reduceToNat, List.reduceReplicate, String.reduceEq, i218, i219, i220, g1, g3, g28, g29, g211, g212, g213]
            (repeat' apply And.intro) <;> (try first | rfl | assumption | omega)
            rw [upd_self hh31]; exact hscr
    · simp (disch := omega) only [go_sem, Nat.reduceEqDiff, Nat.reduceAdd, Nat.reduceMul, Nat.reduceSub, Nat.reduceLeDiff, ↓reduceIte, reduceCtorEq, Int.reduceAdd, Int.reduceSub, Int.reduceMul, Int.reduceNeg, Int.reduceToNat, List.reduceReplicate, String.reduceEq, g1, g3, g28, g29, g211, g212, g213, y1, y3]
      refine (fsame_spec G hG ⟨lo, ow, q⟩ ⟨lo, ow, q⟩ _ hq hq hl1 hl1).mono ?_
      rintro _ H8 ⟨rfl, rfl⟩
      rw [decide_eq_true ⟨rfl, rfl, rfl⟩]
      simp (disch := omega) only [go_sem, Nat.reduceEqDiff, Nat.reduceAdd, Nat.reduceMul, Nat.reduceSub, Nat.reduceLeDiff, ↓reduceIte, reduceCtorEq, Int.reduceAdd, Int.reduceSub, Int.reduceMul, Int.reduceNeg, Int.reduceToNat, List.reduceReplicate, String.reduceEq, g1, g3, g28, g29, g211, g212, g213]
      refine (awake32_spec G hG _).mono ?_
      rintro _ H8 ⟨rfl, rfl⟩
      simp (disch := omega) only [go_sem, Nat.reduceEqDiff, Nat.reduceAdd, Nat.reduceMul, Nat.reduceSub, Nat.reduceLeDiff, ↓reduceIte, reduceCtorEq, Int.reduceAdd, Int.reduceSub, Int.reduceMul, Int.reduceNeg, Int.reduceToNat, List.reduceReplicate, String.reduceEq, g1, g3, g28, g29, g211, g212, g213]
      exact DFin.sub (hscr.sub hsub) (DFin.refl ⟨rfl, rfl⟩)
end Go.Dl
