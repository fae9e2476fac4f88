/- The data level and the contracts of the functions that are reached (part 8). -/
import Derived.Test.YtimnmempnhjbfaaMag
set_option linter.unusedSimpArgs false
set_option linter.unusedVariables false
-- EntryOrder: the walk.
namespace Go.Dl
open Go Go.Proofs
set_option maxRecDepth 10000
set_option maxHeartbeats 4000000

def dKs (k : IntKind) (l : List Int) : DVal := .vslice (l.map (.int k)) l.length

/-- What a round of EntryOrder keeps. -/
def EO (H : DHeap) (m rm rw : Nat) (v6 : DVal) (heap : DHeap) : Prop :=
  ∃ q l vs H2 X, v6 = dIss q ∧ mayQ q = true ∧ q.length = m ∧ AtQ l q ∧ OwnRows 3 H q vs H2 ∧ Disj H2 X ∧ X rw = some (.map (em l)) ∧ X rm = some (.cells vs 37) ∧ heap = over H2 X

theorem entryOrder_spec (G : Nat → DVal) (hG : ∀ g, ∃ r o, G g = .optr r o) (n : Int) (hn : 0 ≤ n ∧ n < 256) (s : List Int) (hs : ∀ x ∈ s, 0 ≤ x ∧ x < 65536) (hl : s.length ≤ 1048576) (H : DHeap) :
    DCalls Try.prog G 6 [.int .u8 n, dKs .u16 s] H (DRet (.bool true) H) := by
  refine dcalls_intro Try.func6 Try.call6 rfl (by kernel_rfl) ?_
  simp (disch := omega) only [go_sem, Nat.reduceEqDiff, Nat.reduceAdd, Nat.reduceMul, Nat.reduceSub, Nat.reduceLeDiff, ↓reduceIte, reduceCtorEq, Int.reduceAdd, Int.reduceSub, Int.reduceMul, Int.reduceNeg, Int.reduceToNat, List.reduceReplicate, dKs]
  by_cases hlen : s.length > 300
  · simp (disch := omega) only [go_sem, Nat.reduceEqDiff, Nat.reduceAdd, Nat.reduceMul, Nat.reduceSub, Nat.reduceLeDiff, ↓reduceIte, reduceCtorEq, Int.reduceAdd, Int.reduceSub, Int.reduceMul, Int.reduceNeg, Int.reduceToNat, List.reduceReplicate, hlen]
    refine (awake31_spec G _).mono ?_
    rintro _ H ⟨rfl, rfl⟩
    simp (disch := omega) only [go_sem, Nat.reduceEqDiff, Nat.reduceAdd, Nat.reduceMul, Nat.reduceSub, Nat.reduceLeDiff, ↓reduceIte, reduceCtorEq, Int.reduceAdd, Int.reduceSub, Int.reduceMul, Int.reduceNeg, Int.reduceToNat, List.reduceReplicate]
    exact DFin.refl ⟨rfl, rfl⟩
  · simp (disch := omega) only [go_sem, Nat.reduceEqDiff, Nat.reduceAdd, Nat.reduceMul, Nat.reduceSub, Nat.reduceLeDiff, ↓reduceIte, reduceCtorEq, Int.reduceAdd, Int.reduceSub, Int.reduceMul, Int.reduceNeg, Int.reduceToNat, List.reduceReplicate]
    obtain ⟨m, hm, hm8⟩ : ∃ m : Nat, n.tmod 9 = m ∧ m ≤ 8 := ⟨(n.tmod 9).toNat, by rw [Int.tmod_eq_emod_of_nonneg hn.1]; omega, by rw [Int.tmod_eq_emod_of_nonneg hn.1]; omega⟩
    rw [hm]
    refine (new_spec G m _).mono ?_
    rintro _ H ⟨rfl, rfl⟩
    rw [newD, if_pos (by omega)]
    simp (disch := omega) only [go_sem, Nat.reduceEqDiff, Nat.reduceAdd, Nat.reduceMul, Nat.reduceSub, Nat.reduceLeDiff, ↓reduceIte, reduceCtorEq, Int.reduceAdd, Int.reduceSub, Int.reduceMul, Int.reduceNeg, Int.reduceToNat, List.reduceReplicate]
    have hrl : (List.replicate m ([] : List Int)).length = m := by simp
    simp (disch := omega) only [go_sem, Nat.reduceEqDiff, Nat.reduceAdd, Nat.reduceMul, Nat.reduceSub, Nat.reduceLeDiff, ↓reduceIte, reduceCtorEq, Int.reduceAdd, Int.reduceSub, Int.reduceMul, Int.reduceNeg, Int.reduceToNat, List.reduceReplicate, dIss, hrl]
    intro rm hrm; dsimp only at hrm
    simp (disch := omega) only [go_sem, Nat.reduceEqDiff, Nat.reduceAdd, Nat.reduceMul, Nat.reduceSub, Nat.reduceLeDiff, ↓reduceIte, reduceCtorEq, Int.reduceAdd, Int.reduceSub, Int.reduceMul, Int.reduceNeg, Int.reduceToNat, List.reduceReplicate]
    intro rw hrw; dsimp only at hrw
    simp (disch := omega) only [go_sem, Nat.reduceEqDiff, Nat.reduceAdd, Nat.reduceMul, Nat.reduceSub, Nat.reduceLeDiff, ↓reduceIte, reduceCtorEq, Int.reduceAdd, Int.reduceSub, Int.reduceMul, Int.reduceNeg, Int.reduceToNat, List.reduceReplicate]
    simp only [upd_eq_none] at hrw
    have hX : upd (upd H rm (some (.cells (List.replicate m DVal.nilSlice) 37))) rw (some (.map [])) = over H (upd (upd h0 rm (some (.cells (List.replicate m DVal.nilSlice) 37))) rw (some (.map []))) := by
      simp only [← upd_over, over_h0]
    obtain ⟨I, hI⟩ : ∃ I : Nat → (Nat → DVal) → DHeap → Prop, ∀ k env heap, I k env heap ↔ (env 1 = .vslice (s.map (DVal.int .u16)) s.length ∧ env 5 = dI m ∧ env 8 = .oslice 1 rm 0 m m ∧ env 9 = .omap rw ∧ env 43 = .vslice (s.map (DVal.int .u16)) s.length ∧ env 44 = dI s.length ∧ env 45 = dI k ∧ k ≤ s.length ∧ EO H m rm rw (env 6) heap) := ⟨_, fun _ _ _ => Iff.rfl⟩
    refine DLoop.run I (fun k => s.length - k) 0 ((hI _ _ _).2 ?_) ?_
    · simp (disch := omega) only [go_sem, Nat.reduceEqDiff, Nat.reduceAdd, Nat.reduceMul, Nat.reduceSub, Nat.reduceLeDiff, ↓reduceIte, reduceCtorEq, Int.reduceAdd, Int.reduceSub, Int.reduceMul, Int.reduceNeg, Int.reduceToNat, List.reduceReplicate]
      (repeat' apply And.intro) <;> (try first | rfl | assumption | omega)
      refine ⟨List.replicate m [], [], List.replicate m .nilSlice, H, _, by rw [dIss, hrl], ?_, by simp, .start m, rows_start _ _ _, ?_, ?_, ?_, hX⟩
      · simp [mayQ]; omega
      · exact ((Disj.h0 H).hi hrm _).hi hrw.2.2 _
      · simp [upd]; rfl
      · simp [upd, hrw.2.1]
    · intro k env heap hk
      obtain ⟨g1, g5, g8, g9, g43, g44, g45, hkl, q, l, vs, H2, X, g6, hmq, hql, hat, hrows, hd, hXw, hXm, rfl⟩ := (hI _ _ _).1 hk
      by_cases hlt : k < s.length
      · have hx := hs _ (List.getElem_mem hlt)
        generalize hxs : s[k] = x at hx
        have hxk : (s.map (DVal.int .u16))[k]? = some (.int .u16 x) := by simp [hlt, hxs]
        simp (disch := omega) only [go_sem, Nat.reduceEqDiff, Nat.reduceAdd, Nat.reduceMul, Nat.reduceSub, Nat.reduceLeDiff, ↓reduceIte, reduceCtorEq, Int.reduceAdd, Int.reduceSub, Int.reduceMul, Int.reduceNeg, Int.reduceToNat, List.reduceReplicate, g1, g5, g6, g8, g9, g43, g44, g45, hxk]
        have hd2 : 0 ≤ x.fdiv (2 ^ min 2 16) ∧ x.fdiv (2 ^ min 2 16) < 16384 := by
          rw [Int.fdiv_eq_ediv_of_nonneg _ (by decide)]; simp; omega
        have hd5 : 0 ≤ x.fdiv (2 ^ min 5 16) ∧ x.fdiv (2 ^ min 5 16) < 2048 := by
          rw [Int.fdiv_eq_ediv_of_nonneg _ (by decide)]; simp; omega
        obtain ⟨e, he, he8⟩ : ∃ e : Nat, (IntKind.i64.wrap (x.fdiv (2 ^ min 2 16))).tmod 8 = e ∧ e < 8 := by
          rw [wrap64_id (by omega) (by omega), Int.tmod_eq_emod_of_nonneg hd2.1]
          exact ⟨(x.fdiv (2 ^ min 2 16) % 8).toNat, by omega, by omega⟩
        obtain ⟨t, ht, ht0⟩ : ∃ t : Int, (IntKind.i64.wrap (x.fdiv (2 ^ min 5 16))).tmod 32 = t ∧ (0 ≤ t ∧ t < 32) := by
          rw [wrap64_id (by omega) (by omega), Int.tmod_eq_emod_of_nonneg hd5.1]
          exact ⟨_, rfl, by omega, by omega⟩
        clear hd2 hd5
        have hrmw : rm ≠ rw := by omega
        have oW : ∀ Hi, over Hi X rw = some (.map (em l)) := fun Hi => over_x hXw
        have oM : ∀ Hi, over Hi X rm = some (.cells vs 37) := fun Hi => over_x hXm
        intro rb hb; dsimp only at hb
        simp only [over_eq_none] at hb
        have hbw : rb ≠ rw := fun e => by rw [e, hXw] at hb; exact absurd hb.2 (by simp)
        have hbm : rb ≠ rm := fun e => by rw [e, hXm] at hb; exact absurd hb.2 (by simp)
        simp (disch := omega) only [go_sem, Nat.reduceEqDiff, Nat.reduceAdd, Nat.reduceMul, Nat.reduceSub, Nat.reduceLeDiff, ↓reduceIte, reduceCtorEq, Int.reduceAdd, Int.reduceSub, Int.reduceMul, Int.reduceNeg, Int.reduceToNat, List.reduceReplicate, g1, g5, g6, g8, g9, g43, g44, g45, he, ht, oW, oM, hbw.symm, hbm.symm]
        obtain ⟨inn, b, hlook, hb0, hb1⟩ := look_em hat t
        refine hlook _ _ _ ?_
        obtain ⟨Xb, hXb, hYw, hYm, hYb, hdb⟩ : ∃ Xb, upd X rb (some (.cells [dI t] 3)) = Xb ∧ Xb rw = some (.map (em l)) ∧ Xb rm = some (.cells vs 37) ∧ Xb rb = some (.cells [dI t] 3) ∧ Disj H2 Xb :=
          ⟨_, rfl, by simp [upd, hbw.symm, hXw], by simp [upd, hbm.symm, hXm], by simp [upd], hd.hi hb.1 _⟩
        rw [show DVal.int .i64 t = dI t from rfl, hXb]
        clear oW oM hXw hXm hlook hXb hb hd
        clear hk X
        have oW : ∀ Hi, over Hi Xb rw = some (.map (em l)) := fun Hi => over_x hYw
        have oM : ∀ Hi, over Hi Xb rm = some (.cells vs 37) := fun Hi => over_x hYm
        have oB : ∀ Hi, over Hi Xb rb = some (.cells [dI t] 3) := fun Hi => over_x hYb
        obtain ⟨kx, hkx, hkx4⟩ : ∃ kx : Int, x.tmod 4 = kx ∧ (0 ≤ kx ∧ kx < 4) := ⟨_, rfl, by rw [Int.tmod_eq_emod_of_nonneg hx.1]; omega, by rw [Int.tmod_eq_emod_of_nonneg hx.1]; omega⟩
        clear he ht hxs
        have hrow : ∀ {q}, mayQ q = true → ∀ l ∈ q, l.length ≤ 1099511627776 := fun hm l h => by have := mayQ_row hm h; omega
        have hsame : ∀ {q vs H5 H2 X}, mayQ q = true → q.length = m → OwnRows 3 H q vs H5 → (∀ r o, H5 r = some o → H2 r = some o) → Disj H2 X → X rm = some (.cells vs 37) → DCalls Try.prog G 17 [dIss q, .oslice 1 rm 0 m m] (over H2 X) (DRet (.bool true) (over H2 X)) := fun {q vs H5 H2 X} h1 h2 h3 h4 h5 h6 => by
          have := same_own G hG (dIss q) (.oslice 1 rm 0 m m) q q _ (.frozen _ _) (eo_views h3 h4 h5 h6 h2) (by omega) (by omega) (hrow h1) (hrow h1)
          simpa using this
        by_cases k0 : kx = 0 ∨ kx = 1
        · have hput : DCalls Try.prog G 11 [dIss q, dI e, dI t] (over H2 Xb) (DRet (.tuple [dIss (putL q e t).1, dI (putL q e t).2]) (over H2 Xb)) := put_spec G q e t _ (by omega) (fun l h => by have := mayQ_row hmq h; omega)
          rcases k0 with k0 | k0
          all_goals
            simp (disch := omega) only [go_sem, Nat.reduceEqDiff, Nat.reduceAdd, Nat.reduceMul, Nat.reduceSub, Nat.reduceLeDiff, ↓reduceIte, reduceCtorEq, Int.reduceAdd, Int.reduceSub, Int.reduceMul, Int.reduceNeg, Int.reduceToNat, List.reduceReplicate, g1, g5, g6, g8, g9, g43, g44, g45, oB, oM, oW, hkx, k0, hbm, hbw, hrmw, hbm.symm, hbw.symm, hrmw.symm]
            refine hput.mono ?_
            rintro _ H3 ⟨rfl, rfl⟩
            rw [putL_eq hmq ht0]
            by_cases hem : q.length ≤ e
            · rw [if_pos hem]
              have hem' : m ≤ e := by omega
              simp (disch := omega) only [go_sem, Nat.reduceEqDiff, Nat.reduceAdd, Nat.reduceMul, Nat.reduceSub, Nat.reduceLeDiff, ↓reduceIte, reduceCtorEq, Int.reduceAdd, Int.reduceSub, Int.reduceMul, Int.reduceNeg, Int.reduceToNat, List.reduceReplicate, g1, g5, g6, g8, g9, g43, g44, g45, oB, oM, oW, hkx, k0, hbm, hbw, hrmw, hbm.symm, hbw.symm, hrmw.symm]
              refine (hsame hmq hql hrows (fun _ _ h => h) hdb hYm).mono ?_
              rintro _ H3 ⟨rfl, rfl⟩
              simp (disch := omega) only [go_sem, Nat.reduceEqDiff, Nat.reduceAdd, Nat.reduceMul, Nat.reduceSub, Nat.reduceLeDiff, ↓reduceIte, reduceCtorEq, Int.reduceAdd, Int.reduceSub, Int.reduceMul, Int.reduceNeg, Int.reduceToNat, List.reduceReplicate, g1, g5, g6, g8, g9, g43, g44, g45, oB, oM, oW, hkx, k0, hbm, hbw, hrmw, hbm.symm, hbw.symm, hrmw.symm]
              refine ⟨k + 1, _, GhostS.refl _, (hI _ _ _).2 ?_, by omega⟩
              simp (disch := omega) only [go_sem, Nat.reduceEqDiff, Nat.reduceAdd, Nat.reduceMul, Nat.reduceSub, Nat.reduceLeDiff, ↓reduceIte, reduceCtorEq, Int.reduceAdd, Int.reduceSub, Int.reduceMul, Int.reduceNeg, Int.reduceToNat, List.reduceReplicate, g1, g5, g6, g8, g9, g43, g44, g45, oB, oM, oW, hkx, k0, hbm, hbw, hrmw, hbm.symm, hbw.symm, hrmw.symm]
              (repeat' apply And.intro) <;> (try first | rfl | assumption | omega)
              exact ⟨q, l, vs, H2, _, rfl, hmq, hql, hat, hrows, hdb, hYw, hYm, rfl⟩
            · rw [if_neg hem]
              cases b with
              | true =>
                obtain ⟨i, hi, hti, hF⟩ := hb1 rfl
                rw [if_pos (mem_flat.2 ⟨_, hti⟩)]
                simp (disch := omega) only [go_sem, Nat.reduceEqDiff, Nat.reduceAdd, Nat.reduceMul, Nat.reduceSub, Nat.reduceLeDiff, ↓reduceIte, reduceCtorEq, Int.reduceAdd, Int.reduceSub, Int.reduceMul, Int.reduceNeg, Int.reduceToNat, List.reduceReplicate, g1, g5, g6, g8, g9, g43, g44, g45, oB, oM, oW, hkx, k0, hbm, hbw, hrmw, hbm.symm, hbw.symm, hrmw.symm]
                refine (hsame hmq hql hrows (fun _ _ h => h) hdb hYm).mono ?_
                rintro _ H3 ⟨rfl, rfl⟩
                simp (disch := omega) only [go_sem, Nat.reduceEqDiff, Nat.reduceAdd, Nat.reduceMul, Nat.reduceSub, Nat.reduceLeDiff, ↓reduceIte, reduceCtorEq, Int.reduceAdd, Int.reduceSub, Int.reduceMul, Int.reduceNeg, Int.reduceToNat, List.reduceReplicate, g1, g5, g6, g8, g9, g43, g44, g45, oB, oM, oW, hkx, k0, hbm, hbw, hrmw, hbm.symm, hbw.symm, hrmw.symm]
                refine ⟨k + 1, _, GhostS.refl _, (hI _ _ _).2 ?_, by omega⟩
                simp (disch := omega) only [go_sem, Nat.reduceEqDiff, Nat.reduceAdd, Nat.reduceMul, Nat.reduceSub, Nat.reduceLeDiff, ↓reduceIte, reduceCtorEq, Int.reduceAdd, Int.reduceSub, Int.reduceMul, Int.reduceNeg, Int.reduceToNat, List.reduceReplicate, g1, g5, g6, g8, g9, g43, g44, g45, oB, oM, oW, hkx, k0, hbm, hbw, hrmw, hbm.symm, hbw.symm, hrmw.symm]
                (repeat' apply And.intro) <;> (try first | rfl | assumption | omega)
                exact ⟨q, l, vs, H2, _, rfl, hmq, hql, hat, hrows, hdb, hYw, hYm, rfl⟩
              | false =>
                obtain ⟨hnt, hF⟩ := hb0 rfl
                rw [if_neg hnt]
                simp (disch := omega) only [go_sem, Nat.reduceEqDiff, Nat.reduceAdd, Nat.reduceMul, Nat.reduceSub, Nat.reduceLeDiff, ↓reduceIte, reduceCtorEq, Int.reduceAdd, Int.reduceSub, Int.reduceMul, Int.reduceNeg, Int.reduceToNat, List.reduceReplicate, g1, g5, g6, g8, g9, g43, g44, g45, oB, oM, oW, hkx, k0, hbm, hbw, hrmw, hbm.symm, hbw.symm, hrmw.symm]
                refine dwp_draws (by kernel_rfl) (.take 0 (.take 1 (.take 2 (.take 3 (.take 4 (.take 5 (.take 6 (.go 7 [5] (.go 8 [6] (.take 9 (.go 10 [] .done))))))))))) (by kernel_rfl) ?_
                have heq : e < q.length := by omega
                obtain ⟨v, hv, hvc, hvo, happ⟩ := rows_append hrows heq
                simp (disch := omega) only [go_sem, Nat.reduceEqDiff, Nat.reduceAdd, Nat.reduceMul, Nat.reduceSub, Nat.reduceLeDiff, ↓reduceIte, reduceCtorEq, Int.reduceAdd, Int.reduceSub, Int.reduceMul, Int.reduceNeg, Int.reduceToNat, List.reduceReplicate, g1, g5, g6, g8, g9, g43, g44, g45, oB, oM, oW, hkx, k0, hbm, hbw, hrmw, hbm.symm, hbw.symm, hrmw.symm, hv]
                intro rc hrc; dsimp only at hrc
                simp only [over_eq_none] at hrc
                have hcm : rm ≠ rc := fun e => by rw [← e, hYm] at hrc; exact absurd hrc.2 (by simp)
                have hcw : rw ≠ rc := fun e => by rw [← e, hYw] at hrc; exact absurd hrc.2 (by simp)
                have hcb : rb ≠ rc := fun e => by rw [← e, hYb] at hrc; exact absurd hrc.2 (by simp)
                simp (disch := omega) only [go_sem, Nat.reduceEqDiff, Nat.reduceAdd, Nat.reduceMul, Nat.reduceSub, Nat.reduceLeDiff, ↓reduceIte, reduceCtorEq, Int.reduceAdd, Int.reduceSub, Int.reduceMul, Int.reduceNeg, Int.reduceToNat, List.reduceReplicate, g1, g5, g6, g8, g9, g43, g44, g45, oB, oM, oW, hkx, k0, hbm, hbw, hrmw, hbm.symm, hbw.symm, hrmw.symm, hv, hcm, hcw, hcb]
                have hlr := mayQ_row hmq (List.getElem_mem heq)
                refine happ (hdb.hi hrc.1 _) (by omega) fun v' H3 hr3 hd3 hvc' hvo' => ?_
                simp (disch := omega) only [go_sem, Nat.reduceEqDiff, Nat.reduceAdd, Nat.reduceMul, Nat.reduceSub, Nat.reduceLeDiff, ↓reduceIte, reduceCtorEq, Int.reduceAdd, Int.reduceSub, Int.reduceMul, Int.reduceNeg, Int.reduceToNat, List.reduceReplicate, KeepK, g1, g5, g6, g8, g9, g43, g44, g45, oB, oM, oW, hkx, k0, hbm, hbw, hrmw, hbm.symm, hbw.symm, hrmw.symm, hv, hcm, hcw, hcb, hvc', hvo']
                have hvl := hrows.len
                refine ⟨by omega, ?_⟩
                rw [hF]
                have hmq' := mayQ_put hmq heq ht0 hnt
                have hat' := hat.put heq hnt
                have hem2 : em l ++ [(dI t, DVal.int .i64 e)] = em (l ++ [(t, e)]) := em_add l t e
                have hg : q.getD e [] = q[e] := by simp [heq]
                rw [hg]
                simp only [dMapUpdF, dMapSet]
                rw [hem2]
                simp (disch := omega) only [go_sem, Nat.reduceEqDiff, Nat.reduceAdd, Nat.reduceMul, Nat.reduceSub, Nat.reduceLeDiff, ↓reduceIte, reduceCtorEq, Int.reduceAdd, Int.reduceSub, Int.reduceMul, Int.reduceNeg, Int.reduceToNat, List.reduceReplicate, g1, g5, g6, g8, g9, g43, g44, g45, oB, oM, oW, hkx, k0, hbm, hbw, hrmw, hbm.symm, hbw.symm, hrmw.symm, hv, hcm, hcw, hcb, hvc', hvo', splice_setD]
                refine (hsame hmq' (by simp [hql]) hr3 (fun _ _ h => h) ((hd3.at (r := rm) (by simp [upd, hcm, hYm]) _).at (r := rw) (by simp [upd, hcw, hrmw.symm, hYw]) _) (by simp [upd, hrmw])).mono ?_
                rintro _ H5 ⟨rfl, rfl⟩
                simp (disch := omega) only [go_sem, Nat.reduceEqDiff, Nat.reduceAdd, Nat.reduceMul, Nat.reduceSub, Nat.reduceLeDiff, ↓reduceIte, reduceCtorEq, Int.reduceAdd, Int.reduceSub, Int.reduceMul, Int.reduceNeg, Int.reduceToNat, List.reduceReplicate, g1, g5, g6, g8, g9, g43, g44, g45, oB, oM, oW, hkx, k0, hbm, hbw, hrmw, hbm.symm, hbw.symm, hrmw.symm]
                refine ⟨k + 1, _, GhostS.refl _, (hI _ _ _).2 ?_, by omega⟩
                simp (disch := omega) only [go_sem, Nat.reduceEqDiff, Nat.reduceAdd, Nat.reduceMul, Nat.reduceSub, Nat.reduceLeDiff, ↓reduceIte, reduceCtorEq, Int.reduceAdd, Int.reduceSub, Int.reduceMul, Int.reduceNeg, Int.reduceToNat, List.reduceReplicate, g1, g5, g6, g8, g9, g43, g44, g45, oB, oM, oW, hkx, k0, hbm, hbw, hrmw, hbm.symm, hbw.symm, hrmw.symm]
                (repeat' apply And.intro) <;> (try first | rfl | assumption | omega)
                exact ⟨_, _, _, H3, _, rfl, hmq', by simp [hql], hat', hr3, (hd3.at (r := rm) (by simp [upd, hcm, hYm]) _).at (r := rw) (by simp [upd, hcw, hrmw.symm, hYw]) _, by simp [upd], by simp [upd, hrmw], rfl⟩
        · by_cases k2 : kx = 2
          · have k0 := k2
            have htake : DCalls Try.prog G 13 [dIss q, dI e] (over H2 Xb) (DRet (.tuple [dIss (takeL q e).1, dI (takeL q e).2.1, dI (takeL q e).2.2]) (over H2 Xb)) := take_spec G q e _ (by omega) (fun l h => by have := mayQ_row hmq h; omega)
            simp (disch := omega) only [go_sem, Nat.reduceEqDiff, Nat.reduceAdd, Nat.reduceMul, Nat.reduceSub, Nat.reduceLeDiff, ↓reduceIte, reduceCtorEq, Int.reduceAdd, Int.reduceSub, Int.reduceMul, Int.reduceNeg, Int.reduceToNat, List.reduceReplicate, g1, g5, g6, g8, g9, g43, g44, g45, oB, oM, oW, hkx, k0, hbm, hbw, hrmw, hbm.symm, hbw.symm, hrmw.symm]
            refine htake.mono ?_
            rintro _ H3 ⟨rfl, rfl⟩
            rw [takeL_eq hmq]
            by_cases hem : q.length ≤ e
            · rw [if_pos hem]
              have hem' : m ≤ e := by omega
              simp (disch := omega) only [go_sem, Nat.reduceEqDiff, Nat.reduceAdd, Nat.reduceMul, Nat.reduceSub, Nat.reduceLeDiff, ↓reduceIte, reduceCtorEq, Int.reduceAdd, Int.reduceSub, Int.reduceMul, Int.reduceNeg, Int.reduceToNat, List.reduceReplicate, g1, g5, g6, g8, g9, g43, g44, g45, oB, oM, oW, hkx, k0, hbm, hbw, hrmw, hbm.symm, hbw.symm, hrmw.symm]
              refine (hsame hmq hql hrows (fun _ _ h => h) (hdb.at (r := rb) (by simp [hYb]) _) (by simp [upd, hbm.symm, hYm])).mono ?_
              rintro _ H3 ⟨rfl, rfl⟩
              simp (disch := omega) only [go_sem, Nat.reduceEqDiff, Nat.reduceAdd, Nat.reduceMul, Nat.reduceSub, Nat.reduceLeDiff, ↓reduceIte, reduceCtorEq, Int.reduceAdd, Int.reduceSub, Int.reduceMul, Int.reduceNeg, Int.reduceToNat, List.reduceReplicate, g1, g5, g6, g8, g9, g43, g44, g45, oB, oM, oW, hkx, k0, hbm, hbw, hrmw, hbm.symm, hbw.symm, hrmw.symm]
              refine ⟨k + 1, _, GhostS.refl _, (hI _ _ _).2 ?_, by omega⟩
              simp (disch := omega) only [go_sem, Nat.reduceEqDiff, Nat.reduceAdd, Nat.reduceMul, Nat.reduceSub, Nat.reduceLeDiff, ↓reduceIte, reduceCtorEq, Int.reduceAdd, Int.reduceSub, Int.reduceMul, Int.reduceNeg, Int.reduceToNat, List.reduceReplicate, g1, g5, g6, g8, g9, g43, g44, g45, oB, oM, oW, hkx, k0, hbm, hbw, hrmw, hbm.symm, hbw.symm, hrmw.symm]
              (repeat' apply And.intro) <;> (try first | rfl | assumption | omega)
              exact ⟨q, l, vs, H2, _, rfl, hmq, hql, hat, hrows, hdb.at (r := rb) (by simp [hYb]) _, by simp [upd, hbw.symm, hYw], by simp [upd, hbm.symm, hYm], rfl⟩
            · rw [if_neg hem]
              have heq : e < q.length := by omega
              have hg : q.getD e [] = q[e] := by simp [heq]
              rw [hg]
              cases hqe : q[e] with
              | nil =>
                obtain ⟨v, hv, _, hv2⟩ := rows_get hrows heq
                rw [hqe] at hv2
                rcases hv2 with ⟨_, rfl⟩ | ⟨r, off, lo, rfl⟩
                · simp (disch := omega) only [go_sem, Nat.reduceEqDiff, Nat.reduceAdd, Nat.reduceMul, Nat.reduceSub, Nat.reduceLeDiff, ↓reduceIte, reduceCtorEq, Int.reduceAdd, Int.reduceSub, Int.reduceMul, Int.reduceNeg, Int.reduceToNat, List.reduceReplicate, g1, g5, g6, g8, g9, g43, g44, g45, oB, oM, oW, hkx, k0, hbm, hbw, hrmw, hbm.symm, hbw.symm, hrmw.symm, hv]
                  refine (hsame hmq hql hrows (fun _ _ h => h) (hdb.at (r := rb) (by simp [hYb]) _) (by simp [upd, hbm.symm, hYm])).mono ?_
                  rintro _ H3 ⟨rfl, rfl⟩
                  simp (disch := omega) only [go_sem, Nat.reduceEqDiff, Nat.reduceAdd, Nat.reduceMul, Nat.reduceSub, Nat.reduceLeDiff, ↓reduceIte, reduceCtorEq, Int.reduceAdd, Int.reduceSub, Int.reduceMul, Int.reduceNeg, Int.reduceToNat, List.reduceReplicate, g1, g5, g6, g8, g9, g43, g44, g45, oB, oM, oW, hkx, k0, hbm, hbw, hrmw, hbm.symm, hbw.symm, hrmw.symm]
                  refine ⟨k + 1, _, GhostS.refl _, (hI _ _ _).2 ?_, by omega⟩
                  simp (disch := omega) only [go_sem, Nat.reduceEqDiff, Nat.reduceAdd, Nat.reduceMul, Nat.reduceSub, Nat.reduceLeDiff, ↓reduceIte, reduceCtorEq, Int.reduceAdd, Int.reduceSub, Int.reduceMul, Int.reduceNeg, Int.reduceToNat, List.reduceReplicate, g1, g5, g6, g8, g9, g43, g44, g45, oB, oM, oW, hkx, k0, hbm, hbw, hrmw, hbm.symm, hbw.symm, hrmw.symm]
                  (repeat' apply And.intro) <;> (try first | rfl | assumption | omega)
                  exact ⟨q, l, vs, H2, _, rfl, hmq, hql, hat, hrows, hdb.at (r := rb) (by simp [hYb]) _, by simp [upd, hbw.symm, hYw], by simp [upd, hbm.symm, hYm], rfl⟩
                · simp (disch := omega) only [go_sem, Nat.reduceEqDiff, Nat.reduceAdd, Nat.reduceMul, Nat.reduceSub, Nat.reduceLeDiff, ↓reduceIte, reduceCtorEq, Int.reduceAdd, Int.reduceSub, Int.reduceMul, Int.reduceNeg, Int.reduceToNat, List.reduceReplicate, g1, g5, g6, g8, g9, g43, g44, g45, oB, oM, oW, hkx, k0, hbm, hbw, hrmw, hbm.symm, hbw.symm, hrmw.symm, hv]
                  refine (hsame hmq hql hrows (fun _ _ h => h) (hdb.at (r := rb) (by simp [hYb]) _) (by simp [upd, hbm.symm, hYm])).mono ?_
                  rintro _ H3 ⟨rfl, rfl⟩
                  simp (disch := omega) only [go_sem, Nat.reduceEqDiff, Nat.reduceAdd, Nat.reduceMul, Nat.reduceSub, Nat.reduceLeDiff, ↓reduceIte, reduceCtorEq, Int.reduceAdd, Int.reduceSub, Int.reduceMul, Int.reduceNeg, Int.reduceToNat, List.reduceReplicate, g1, g5, g6, g8, g9, g43, g44, g45, oB, oM, oW, hkx, k0, hbm, hbw, hrmw, hbm.symm, hbw.symm, hrmw.symm]
                  refine ⟨k + 1, _, GhostS.refl _, (hI _ _ _).2 ?_, by omega⟩
                  simp (disch := omega) only [go_sem, Nat.reduceEqDiff, Nat.reduceAdd, Nat.reduceMul, Nat.reduceSub, Nat.reduceLeDiff, ↓reduceIte, reduceCtorEq, Int.reduceAdd, Int.reduceSub, Int.reduceMul, Int.reduceNeg, Int.reduceToNat, List.reduceReplicate, g1, g5, g6, g8, g9, g43, g44, g45, oB, oM, oW, hkx, k0, hbm, hbw, hrmw, hbm.symm, hbw.symm, hrmw.symm]
                  (repeat' apply And.intro) <;> (try first | rfl | assumption | omega)
                  exact ⟨q, l, vs, H2, _, rfl, hmq, hql, hat, hrows, hdb.at (r := rb) (by simp [hYb]) _, by simp [upd, hbw.symm, hYw], by simp [upd, hbm.symm, hYm], rfl⟩
              | cons u l' =>
                obtain ⟨r, off, lo, cs, hv, hr, hcs, hlo, hr3, hrn⟩ := rows_front hrows heq hqe hdb
                have hrb : r ≠ rb := fun e => hrn (by rw [e]; exact hdb rb (by simp [hYb]))
                have hum : u ∈ q[e] := by rw [hqe]; exact List.mem_cons_self
                obtain ⟨i, hi⟩ := List.getElem?_of_mem ((hat.mem u e).2 (by rw [hg]; exact hum))
                have hFu : dFind (dI u) (em l) 0 = some (some i) := by have := dFind_at hi hat.nodup 0; rwa [Nat.zero_add] at this
                simp (disch := omega) only [go_sem, Nat.reduceEqDiff, Nat.reduceAdd, Nat.reduceMul, Nat.reduceSub, Nat.reduceLeDiff, ↓reduceIte, reduceCtorEq, Int.reduceAdd, Int.reduceSub, Int.reduceMul, Int.reduceNeg, Int.reduceToNat, List.reduceReplicate, g1, g5, g6, g8, g9, g43, g44, g45, oB, oM, oW, hkx, k0, hbm, hbw, hrmw, hbm.symm, hbw.symm, hrmw.symm, hv, hrb, hr, hcs]
                have hvl := hrows.len
                refine ⟨by omega, ?_⟩
                rw [hFu]
                simp only [dMapDelF, dMapDelS]
                rw [em_del]
                have hmq' := mayQ_part hmq heq (l := l') (by rw [hqe]; exact List.sublist_cons_self _ _)
                have hnd := mayQ_rowNodup hmq heq
                have hul : u ∉ l' := by rw [hqe] at hnd; exact (List.nodup_cons.1 hnd).1
                have hat' := hat.del hi (part_mem hmq heq hum (l := l') fun x => by
                  rw [hqe, List.mem_cons]
                  exact ⟨fun h => ⟨.inr h, fun e => hul (e ▸ h)⟩, fun h => h.1.resolve_left h.2⟩)
                simp (disch := omega) only [go_sem, Nat.reduceEqDiff, Nat.reduceAdd, Nat.reduceMul, Nat.reduceSub, Nat.reduceLeDiff, ↓reduceIte, reduceCtorEq, Int.reduceAdd, Int.reduceSub, Int.reduceMul, Int.reduceNeg, Int.reduceToNat, List.reduceReplicate, g1, g5, g6, g8, g9, g43, g44, g45, oB, oM, oW, hkx, k0, hbm, hbw, hrmw, hbm.symm, hbw.symm, hrmw.symm, splice_setD]
                refine (hsame hmq' (by simp [hql]) hr3 (fun _ _ h => h) (((hdb.at (r := rb) (by simp [hYb]) _).at (r := rm) (by simp [upd, hbm.symm, hYm]) _).at (r := rw) (by simp [upd, hbw.symm, hrmw.symm, hYw]) _) (by simp [upd, hrmw])).mono ?_
                rintro _ H5 ⟨rfl, rfl⟩
                simp (disch := omega) only [go_sem, Nat.reduceEqDiff, Nat.reduceAdd, Nat.reduceMul, Nat.reduceSub, Nat.reduceLeDiff, ↓reduceIte, reduceCtorEq, Int.reduceAdd, Int.reduceSub, Int.reduceMul, Int.reduceNeg, Int.reduceToNat, List.reduceReplicate, g1, g5, g6, g8, g9, g43, g44, g45, oB, oM, oW, hkx, k0, hbm, hbw, hrmw, hbm.symm, hbw.symm, hrmw.symm]
                refine ⟨k + 1, _, GhostS.refl _, (hI _ _ _).2 ?_, by omega⟩
                simp (disch := omega) only [go_sem, Nat.reduceEqDiff, Nat.reduceAdd, Nat.reduceMul, Nat.reduceSub, Nat.reduceLeDiff, ↓reduceIte, reduceCtorEq, Int.reduceAdd, Int.reduceSub, Int.reduceMul, Int.reduceNeg, Int.reduceToNat, List.reduceReplicate, g1, g5, g6, g8, g9, g43, g44, g45, oB, oM, oW, hkx, k0, hbm, hbw, hrmw, hbm.symm, hbw.symm, hrmw.symm]
                (repeat' apply And.intro) <;> (try first | rfl | assumption | omega)
                exact ⟨_, _, _, H2, _, rfl, hmq', by simp [hql], hat', hr3, ((hdb.at (r := rb) (by simp [hYb]) _).at (r := rm) (by simp [upd, hbm.symm, hYm]) _).at (r := rw) (by simp [upd, hbw.symm, hrmw.symm, hYw]) _, by simp [upd], by simp [upd, hrmw], rfl⟩
          · have k0 : kx = 3 := by omega
            have hremove : DCalls Try.prog G 15 [dIss q, dI t] (over H2 Xb) (DRet (.tuple [dIss (removeL q t).1, dI (removeL q t).2]) (over H2 Xb)) := remove_spec G q t _ (by omega) (fun l h => by have := mayQ_row hmq h; omega)
            simp (disch := omega) only [go_sem, Nat.reduceEqDiff, Nat.reduceAdd, Nat.reduceMul, Nat.reduceSub, Nat.reduceLeDiff, ↓reduceIte, reduceCtorEq, Int.reduceAdd, Int.reduceSub, Int.reduceMul, Int.reduceNeg, Int.reduceToNat, List.reduceReplicate, g1, g5, g6, g8, g9, g43, g44, g45, oB, oM, oW, hkx, k0, hbm, hbw, hrmw, hbm.symm, hbw.symm, hrmw.symm]
            refine hremove.mono ?_
            rintro _ H3 ⟨rfl, rfl⟩
            cases b with
            | false =>
              obtain ⟨hnt, hF⟩ := hb0 rfl
              rw [removeL_no hmq ht0 hnt]
              simp (disch := omega) only [go_sem, Nat.reduceEqDiff, Nat.reduceAdd, Nat.reduceMul, Nat.reduceSub, Nat.reduceLeDiff, ↓reduceIte, reduceCtorEq, Int.reduceAdd, Int.reduceSub, Int.reduceMul, Int.reduceNeg, Int.reduceToNat, List.reduceReplicate, g1, g5, g6, g8, g9, g43, g44, g45, oB, oM, oW, hkx, k0, hbm, hbw, hrmw, hbm.symm, hbw.symm, hrmw.symm]
              refine (hsame hmq hql hrows (fun _ _ h => h) hdb hYm).mono ?_
              rintro _ H3 ⟨rfl, rfl⟩
              simp (disch := omega) only [go_sem, Nat.reduceEqDiff, Nat.reduceAdd, Nat.reduceMul, Nat.reduceSub, Nat.reduceLeDiff, ↓reduceIte, reduceCtorEq, Int.reduceAdd, Int.reduceSub, Int.reduceMul, Int.reduceNeg, Int.reduceToNat, List.reduceReplicate, g1, g5, g6, g8, g9, g43, g44, g45, oB, oM, oW, hkx, k0, hbm, hbw, hrmw, hbm.symm, hbw.symm, hrmw.symm]
              refine ⟨k + 1, _, GhostS.refl _, (hI _ _ _).2 ?_, by omega⟩
              simp (disch := omega) only [go_sem, Nat.reduceEqDiff, Nat.reduceAdd, Nat.reduceMul, Nat.reduceSub, Nat.reduceLeDiff, ↓reduceIte, reduceCtorEq, Int.reduceAdd, Int.reduceSub, Int.reduceMul, Int.reduceNeg, Int.reduceToNat, List.reduceReplicate, g1, g5, g6, g8, g9, g43, g44, g45, oB, oM, oW, hkx, k0, hbm, hbw, hrmw, hbm.symm, hbw.symm, hrmw.symm]
              (repeat' apply And.intro) <;> (try first | rfl | assumption | omega)
              exact ⟨q, l, vs, H2, _, rfl, hmq, hql, hat, hrows, hdb, hYw, hYm, rfl⟩
            | true =>
              obtain ⟨i, hi, hti, hF⟩ := hb1 rfl
              have heq : inn < q.length := by
                rcases Nat.lt_or_ge inn q.length with h1 | h1
                · exact h1
                · simp [h1] at hti
              have hg : q.getD inn [] = q[inn] := by simp [heq]
              rw [hg] at hti
              rw [removeL_at hmq heq hti]
              obtain ⟨v, hv, hvr, hv2⟩ := rows_get hrows heq
              simp (disch := omega) only [go_sem, Nat.reduceEqDiff, Nat.reduceAdd, Nat.reduceMul, Nat.reduceSub, Nat.reduceLeDiff, ↓reduceIte, reduceCtorEq, Int.reduceAdd, Int.reduceSub, Int.reduceMul, Int.reduceNeg, Int.reduceToNat, List.reduceReplicate, g1, g5, g6, g8, g9, g43, g44, g45, oB, oM, oW, hkx, k0, hbm, hbw, hrmw, hbm.symm, hbw.symm, hrmw.symm, hv]
              refine (clone_lent G hG q[inn] v _ (hvr.up (over_sub hdb)) (hrow hmq _ (List.getElem_mem heq))).mono ?_
              rintro _ H3 ⟨u, rfl, hu⟩
              rcases hu with ⟨h0, _⟩ | ⟨ru, hru, hlu, rfl, rfl⟩
              · rw [List.length_eq_zero_iff] at h0; rw [h0] at hti; cases hti
              simp (disch := omega) only [go_sem, Nat.reduceEqDiff, Nat.reduceAdd, Nat.reduceMul, Nat.reduceSub, Nat.reduceLeDiff, ↓reduceIte, reduceCtorEq, Int.reduceAdd, Int.reduceSub, Int.reduceMul, Int.reduceNeg, Int.reduceToNat, List.reduceReplicate, g1, g5, g6, g8, g9, g43, g44, g45, oB, oM, oW, hkx, k0, hbm, hbw, hrmw, hbm.symm, hbw.symm, hrmw.symm, hv]
              have hru' := over_eq_none.1 hru
              have hdel := deleteFunc_raw G q[inn] 35 [.optr rb 0] (fun x => decide (x = t)) ru (over H2 Xb) hru (hrow hmq _ (List.getElem_mem heq)) (fun x _ cs => isT_spec G x t rb _ (by
                have hne : rb ≠ ru := fun e => by rw [← e, oB] at hru; cases hru
                simp only [upd, if_neg hne]; exact oB _))
              simp only [upd_over] at hdel
              refine hdel.mono ?_
              rintro _ H3 ⟨v', rfl, hv'⟩
              have hvc' := hv'.cell1
              obtain ⟨H4, H5, rfl, hd4, hr5, hs5⟩ := rows_put hrows heq hdb hv'
              simp (disch := omega) only [go_sem, Nat.reduceEqDiff, Nat.reduceAdd, Nat.reduceMul, Nat.reduceSub, Nat.reduceLeDiff, ↓reduceIte, reduceCtorEq, Int.reduceAdd, Int.reduceSub, Int.reduceMul, Int.reduceNeg, Int.reduceToNat, List.reduceReplicate, g1, g5, g6, g8, g9, g43, g44, g45, oB, oM, oW, hkx, k0, hbm, hbw, hrmw, hbm.symm, hbw.symm, hrmw.symm, hv, hvc'.1, hvc'.2]
              have hvl := hrows.len
              refine ⟨by omega, ?_⟩
              rw [hF]
              simp only [dMapDelF, dMapDelS]
              rw [em_del]
              have hmq' := mayQ_part hmq heq (l := q[inn].filter fun x => !decide (x = t)) (List.filter_sublist)
              have hat' := hat.del hi (part_mem hmq heq hti (filter_mem _ _))
              simp (disch := omega) only [go_sem, Nat.reduceEqDiff, Nat.reduceAdd, Nat.reduceMul, Nat.reduceSub, Nat.reduceLeDiff, ↓reduceIte, reduceCtorEq, Int.reduceAdd, Int.reduceSub, Int.reduceMul, Int.reduceNeg, Int.reduceToNat, List.reduceReplicate, g1, g5, g6, g8, g9, g43, g44, g45, oB, oM, oW, hkx, k0, hbm, hbw, hrmw, hbm.symm, hbw.symm, hrmw.symm, splice_setD]
              have hdn := (hd4.at (r := rm) (by simp [hYm]) (some (.cells (vs.set inn v') 37))).at (r := rw) (by simp [upd, hrmw.symm, hYw]) (some (.map (em (l.eraseIdx i))))
              refine (hsame hmq' (by simp [hql]) hr5 hs5 hdn (by simp [upd, hrmw])).mono ?_
              rintro _ H6 ⟨rfl, rfl⟩
              simp (disch := omega) only [go_sem, Nat.reduceEqDiff, Nat.reduceAdd, Nat.reduceMul, Nat.reduceSub, Nat.reduceLeDiff, ↓reduceIte, reduceCtorEq, Int.reduceAdd, Int.reduceSub, Int.reduceMul, Int.reduceNeg, Int.reduceToNat, List.reduceReplicate, g1, g5, g6, g8, g9, g43, g44, g45, oB, oM, oW, hkx, k0, hbm, hbw, hrmw, hbm.symm, hbw.symm, hrmw.symm]
              refine ⟨k + 1, _, GhostS.sub (H' := over H5 (upd (upd Xb rm (some (.cells (vs.set inn v') 37))) rw (some (.map (em (l.eraseIdx i)))))) (fun r o h => ?_), (hI _ _ _).2 ?_, by omega⟩
              · show over H4 _ r = some o
                unfold over at h ⊢
                split at h
                · exact h
                · exact hs5 r o h
              simp (disch := omega) only [go_sem, Nat.reduceEqDiff, Nat.reduceAdd, Nat.reduceMul, Nat.reduceSub, Nat.reduceLeDiff, ↓reduceIte, reduceCtorEq, Int.reduceAdd, Int.reduceSub, Int.reduceMul, Int.reduceNeg, Int.reduceToNat, List.reduceReplicate, g1, g5, g6, g8, g9, g43, g44, g45, oB, oM, oW, hkx, k0, hbm, hbw, hrmw, hbm.symm, hbw.symm, hrmw.symm]
              (repeat' apply And.intro) <;> (try first | rfl | assumption | omega)
              exact ⟨_, _, _, H5, _, rfl, hmq', by simp [hql], hat', hr5, hdn.subl hs5, by simp [upd], by simp [upd, hrmw], rfl⟩
      · simp (disch := omega) only [go_sem, Nat.reduceEqDiff, Nat.reduceAdd, Nat.reduceMul, Nat.reduceSub, Nat.reduceLeDiff, ↓reduceIte, reduceCtorEq, Int.reduceAdd, Int.reduceSub, Int.reduceMul, Int.reduceNeg, Int.reduceToNat, List.reduceReplicate, g1, g5, g6, g8, g9, g43, g44, g45]
        refine (awake31_spec G _).mono ?_
        rintro _ H5 ⟨rfl, rfl⟩
        simp (disch := omega) only [go_sem, Nat.reduceEqDiff, Nat.reduceAdd, Nat.reduceMul, Nat.reduceSub, Nat.reduceLeDiff, ↓reduceIte, reduceCtorEq, Int.reduceAdd, Int.reduceSub, Int.reduceMul, Int.reduceNeg, Int.reduceToNat, List.reduceReplicate]
        exact DFin.sub (fun r o h => over_sub hd r o (hrows.sub r o h)) (DFin.refl ⟨rfl, rfl⟩)
end Go.Dl
