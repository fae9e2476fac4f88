/- The data level and the contracts of the functions that are reached (part 6). -/
import Derived.Test.YtimnmempnhjbfaaMbe
set_option linter.unusedSimpArgs false
set_option linter.unusedVariables false
-- entry: Put, Take, Remove.
namespace Go.Dl
open Go Go.Proofs
set_option maxRecDepth 10000

theorem DLe.nilIs : DLe .nilSlice (dIs []) := DLe.nil
theorem DLe.nilIss : DLe .nilSlice (dIss []) := DLe.nil

/-- Put: the queues behind it (none where it is refused), the error. -/
def putL (q : List (List Int)) (e t : Int) : List (List Int) × Int :=
  if chk q e t ≠ 0 then ([], chk q e t) else if (findP q t).isSome then ([], 7) else (q.set e.toNat (q.getD e.toNat [] ++ [t]), 0)
def takeL (q : List (List Int)) (e : Int) : List (List Int) × Int × Int :=
  if chk q e 0 ≠ 0 then ([], 0, chk q e 0) else match q.getD e.toNat [] with
    | [] => ([], 0, 6)
    | t :: l => (q.set e.toNat l, t, 0)
def removeL (q : List (List Int)) (t : Int) : List (List Int) × Int :=
  if mayQ q = false then ([], 2) else if ¬ (0 ≤ t ∧ t < 32) then ([], 4) else match findP q t with
    | none => ([], 6)
    | some p => (q.set p.1 ((q.getD p.1 []).eraseIdx (idx (q.getD p.1 []) t).toNat), 0)

theorem chk_zero {q : List (List Int)} {e t : Int} (h : chk q e t = 0) : mayQ q = true ∧ 0 ≤ e ∧ e < q.length ∧ 0 ≤ t ∧ t < 32 := by
  unfold chk at h
  split at h
  · rename_i hm
    split at h
    · rename_i h2; exact ⟨hm, h2⟩
    · omega
  · omega

theorem put_spec (G : Nat → DVal) (q : List (List Int)) (e t : Int) (H : DHeap) (hq : q.length ≤ 1099511627776) (hl : ∀ l ∈ q, l.length ≤ 1000000000) : DCalls Try.prog G 11 [dIss q, dI e, dI t] H (DRet (.tuple [dIss (putL q e t).1, dI (putL q e t).2]) H) := by
  have hl' : ∀ l ∈ q, l.length ≤ 1099511627776 := fun l h => Nat.le_trans (hl l h) (by omega)
  refine dcalls_intro Try.func11 Try.call11 rfl (by kernel_rfl) ?_
  simp (disch := omega) only [go_sem, Nat.reduceEqDiff, Nat.reduceAdd, Nat.reduceMul, Nat.reduceSub, Nat.reduceLeDiff, ↓reduceIte, reduceCtorEq, Int.reduceAdd, Int.reduceSub, Int.reduceMul, Int.reduceNeg, Int.reduceToNat, List.reduceReplicate]
  refine (check_spec G q e t _ hq hl').mono ?_
  rintro _ _ ⟨rfl, rfl⟩
  by_cases hc : chk q e t = 0
  · obtain ⟨hm, e0, e1, t0, t1⟩ := chk_zero hc
    obtain ⟨n, rfl⟩ : ∃ n : Nat, e = n := ⟨e.toNat, by omega⟩
    have hn : n < q.length := by omega
    simp (disch := omega) only [go_sem, Nat.reduceEqDiff, Nat.reduceAdd, Nat.reduceMul, Nat.reduceSub, Nat.reduceLeDiff, ↓reduceIte, reduceCtorEq, Int.reduceAdd, Int.reduceSub, Int.reduceMul, Int.reduceNeg, Int.reduceToNat, List.reduceReplicate, hc]
    refine (find_spec G q t _ hq hl').mono ?_
    rintro _ _ ⟨rfl, rfl⟩
    cases hf : findP q t with
    | some p =>
      simp (disch := omega) only [go_sem, Nat.reduceEqDiff, Nat.reduceAdd, Nat.reduceMul, Nat.reduceSub, Nat.reduceLeDiff, ↓reduceIte, reduceCtorEq, Int.reduceAdd, Int.reduceSub, Int.reduceMul, Int.reduceNeg, Int.reduceToNat, List.reduceReplicate, findD, hm, hf]
      refine DFin.le (DLe.tuple (.cons .nilIss (.refl _))) (DFin.refl ⟨?_, rfl⟩)
      simp [putL, hc, hf, dIss]
    | none =>
      simp (disch := omega) only [go_sem, Nat.reduceEqDiff, Nat.reduceAdd, Nat.reduceMul, Nat.reduceSub, Nat.reduceLeDiff, ↓reduceIte, reduceCtorEq, Int.reduceAdd, Int.reduceSub, Int.reduceMul, Int.reduceNeg, Int.reduceToNat, List.reduceReplicate, findD, hm, hf]
      intro ra ha; dsimp only at ha
      simp (disch := omega) only [go_sem, Nat.reduceEqDiff, Nat.reduceAdd, Nat.reduceMul, Nat.reduceSub, Nat.reduceLeDiff, ↓reduceIte, reduceCtorEq, Int.reduceAdd, Int.reduceSub, Int.reduceMul, Int.reduceNeg, Int.reduceToNat, List.reduceReplicate]
      intro rb hb; dsimp only at hb
      simp only [upd_eq_none] at hb
      simp (disch := omega) only [go_sem, Nat.reduceEqDiff, Nat.reduceAdd, Nat.reduceMul, Nat.reduceSub, Nat.reduceLeDiff, ↓reduceIte, reduceCtorEq, Int.reduceAdd, Int.reduceSub, Int.reduceMul, Int.reduceNeg, Int.reduceToNat, List.reduceReplicate, hb]
      refine DCalls.fzA rb (by simp [upd, hb]) ?_
      simp (disch := omega) only [go_sem, Nat.reduceEqDiff, Nat.reduceAdd, Nat.reduceMul, Nat.reduceSub, Nat.reduceLeDiff, ↓reduceIte, reduceCtorEq, Int.reduceAdd, Int.reduceSub, Int.reduceMul, Int.reduceNeg, Int.reduceToNat, List.reduceReplicate, hb]
      refine DCalls.fzA ra ha ?_
      simp (disch := omega) only [go_sem, Nat.reduceEqDiff, Nat.reduceAdd, Nat.reduceMul, Nat.reduceSub, Nat.reduceLeDiff, ↓reduceIte, reduceCtorEq, Int.reduceAdd, Int.reduceSub, Int.reduceMul, Int.reduceNeg, Int.reduceToNat, List.reduceReplicate, hb]
      have hln := hl q[n] (List.getElem_mem hn)
      refine (concat_spec G [q[n], [t]] _ (by simp) (by simp; omega)).mono ?_
      rintro _ _ ⟨rfl, rfl⟩
      simp (disch := omega) only [go_sem, Nat.reduceEqDiff, Nat.reduceAdd, Nat.reduceMul, Nat.reduceSub, Nat.reduceLeDiff, ↓reduceIte, reduceCtorEq, Int.reduceAdd, Int.reduceSub, Int.reduceMul, Int.reduceNeg, Int.reduceToNat, List.reduceReplicate]
      refine (with_spec G q n ([q[n], [t]] : List (List Int)).flatten _ hn hq hl').mono ?_
      rintro _ _ ⟨rfl, rfl⟩
      simp (disch := omega) only [go_sem, Nat.reduceEqDiff, Nat.reduceAdd, Nat.reduceMul, Nat.reduceSub, Nat.reduceLeDiff, ↓reduceIte, reduceCtorEq, Int.reduceAdd, Int.reduceSub, Int.reduceMul, Int.reduceNeg, Int.reduceToNat, List.reduceReplicate]
      refine DFin.refl ⟨?_, rfl⟩
      simp [putL, hc, hf, hn, dIss]
  · simp (disch := omega) only [go_sem, Nat.reduceEqDiff, Nat.reduceAdd, Nat.reduceMul, Nat.reduceSub, Nat.reduceLeDiff, ↓reduceIte, reduceCtorEq, Int.reduceAdd, Int.reduceSub, Int.reduceMul, Int.reduceNeg, Int.reduceToNat, List.reduceReplicate, hc]
    refine DFin.le (DLe.tuple (.cons .nilIss (.refl _))) (DFin.refl ⟨?_, rfl⟩)
    simp [putL, hc, dIss]

theorem take_spec (G : Nat → DVal) (q : List (List Int)) (e : Int) (H : DHeap) (hq : q.length ≤ 1099511627776) (hl : ∀ l ∈ q, l.length ≤ 1000000000) : DCalls Try.prog G 13 [dIss q, dI e] H (DRet (.tuple [dIss (takeL q e).1, dI (takeL q e).2.1, dI (takeL q e).2.2]) H) := by
  have hl' : ∀ l ∈ q, l.length ≤ 1099511627776 := fun l h => Nat.le_trans (hl l h) (by omega)
  refine dcalls_intro Try.func13 Try.call13 rfl (by kernel_rfl) ?_
  simp (disch := omega) only [go_sem, Nat.reduceEqDiff, Nat.reduceAdd, Nat.reduceMul, Nat.reduceSub, Nat.reduceLeDiff, ↓reduceIte, reduceCtorEq, Int.reduceAdd, Int.reduceSub, Int.reduceMul, Int.reduceNeg, Int.reduceToNat, List.reduceReplicate]
  refine (check_spec G q e 0 _ hq hl').mono ?_
  rintro _ _ ⟨rfl, rfl⟩
  by_cases hc : chk q e 0 = 0
  · obtain ⟨hm, e0, e1, t0, t1⟩ := chk_zero hc
    obtain ⟨n, rfl⟩ : ∃ n : Nat, e = n := ⟨e.toNat, by omega⟩
    have hn : n < q.length := by omega
    have hg : q.getD n [] = q[n] := by simp [hn]
    have hln := hl q[n] (List.getElem_mem hn)
    cases hq2 : q[n] with
    | nil =>
      simp (disch := omega) only [go_sem, Nat.reduceEqDiff, Nat.reduceAdd, Nat.reduceMul, Nat.reduceSub, Nat.reduceLeDiff, ↓reduceIte, reduceCtorEq, Int.reduceAdd, Int.reduceSub, Int.reduceMul, Int.reduceNeg, Int.reduceToNat, List.reduceReplicate, hc, hq2]
      refine DFin.le (DLe.tuple (.cons .nilIss (.refl _))) (DFin.refl ⟨?_, rfl⟩)
      simp only [takeL, hc, ne_eq, not_true_eq_false, if_false, Int.toNat_natCast, hg, hq2]
      simp [dIss]
    | cons u l =>
      rw [hq2] at hln
      simp only [List.length_cons] at hln
      simp (disch := omega) only [go_sem, Nat.reduceEqDiff, Nat.reduceAdd, Nat.reduceMul, Nat.reduceSub, Nat.reduceLeDiff, ↓reduceIte, reduceCtorEq, Int.reduceAdd, Int.reduceSub, Int.reduceMul, Int.reduceNeg, Int.reduceToNat, List.reduceReplicate, hc, hq2]
      refine dwp_draws (by kernel_rfl) (.take 0 (.take 1 (.take 2 (.take 3 (.take 6 (.take 7 (.take 8 (.go 4 [8] (.go 5 [8, 3] (.take 9 (.take 10 (.take 11 .done)))))))))))) (by kernel_rfl) ?_
      simp (disch := omega) only [go_sem, Nat.reduceEqDiff, Nat.reduceAdd, Nat.reduceMul, Nat.reduceSub, Nat.reduceLeDiff, ↓reduceIte, reduceCtorEq, Int.reduceAdd, Int.reduceSub, Int.reduceMul, Int.reduceNeg, Int.reduceToNat, List.reduceReplicate, hq2, List.map_cons]
      refine (clone_spec G l _ (by omega)).mono ?_
      rintro _ _ ⟨rfl, rfl⟩
      simp (disch := omega) only [go_sem, Nat.reduceEqDiff, Nat.reduceAdd, Nat.reduceMul, Nat.reduceSub, Nat.reduceLeDiff, ↓reduceIte, reduceCtorEq, Int.reduceAdd, Int.reduceSub, Int.reduceMul, Int.reduceNeg, Int.reduceToNat, List.reduceReplicate]
      refine (with_spec G q n l _ hn hq hl').mono ?_
      rintro _ _ ⟨rfl, rfl⟩
      simp (disch := omega) only [go_sem, Nat.reduceEqDiff, Nat.reduceAdd, Nat.reduceMul, Nat.reduceSub, Nat.reduceLeDiff, ↓reduceIte, reduceCtorEq, Int.reduceAdd, Int.reduceSub, Int.reduceMul, Int.reduceNeg, Int.reduceToNat, List.reduceReplicate]
      refine DFin.refl ⟨?_, rfl⟩
      simp only [takeL, hc, ne_eq, not_true_eq_false, if_false, Int.toNat_natCast, hg, hq2]
      try simp [dIss]
  · simp (disch := omega) only [go_sem, Nat.reduceEqDiff, Nat.reduceAdd, Nat.reduceMul, Nat.reduceSub, Nat.reduceLeDiff, ↓reduceIte, reduceCtorEq, Int.reduceAdd, Int.reduceSub, Int.reduceMul, Int.reduceNeg, Int.reduceToNat, List.reduceReplicate, hc]
    refine DFin.le (DLe.tuple (.cons .nilIss (.refl _))) (DFin.refl ⟨?_, rfl⟩)
    simp [takeL, hc, dIss]

theorem idx_found {l : List Int} {t : Int} (h : t ∈ l) : ∃ i : Nat, idx l t = i ∧ i < l.length := by
  unfold idx
  cases hf : l.findIdx? (fun x => decide (x = t)) with
  | none => exact absurd (List.findIdx?_eq_none_iff.1 hf t h) (by simp)
  | some i => exact ⟨i, rfl, (List.findIdx?_eq_some_iff_getElem.1 hf).1⟩

theorem findP_mem {q : List (List Int)} {t : Int} {p : Nat × Int} (h : findP q t = some p) : ∃ h : p.1 < q.length, p.2 = t ∧ t ∈ q[p.1] := by
  have h1 := List.mem_of_find?_eq_some h
  have h2 := List.find?_some h
  obtain ⟨h3, _, h5⟩ := clp_mem h1
  simp only [Nat.sub_zero, decide_eq_true_eq] at h2 h3 h5
  exact ⟨h3, h2, h2 ▸ h5⟩

theorem remove_spec (G : Nat → DVal) (q : List (List Int)) (t : Int) (H : DHeap) (hq : q.length ≤ 1099511627776) (hl : ∀ l ∈ q, l.length ≤ 1000000000) : DCalls Try.prog G 15 [dIss q, dI t] H (DRet (.tuple [dIss (removeL q t).1, dI (removeL q t).2]) H) := by
  have hl' : ∀ l ∈ q, l.length ≤ 1099511627776 := fun l h => Nat.le_trans (hl l h) (by omega)
  refine dcalls_intro Try.func15 Try.call15 rfl (by kernel_rfl) ?_
  simp (disch := omega) only [go_sem, Nat.reduceEqDiff, Nat.reduceAdd, Nat.reduceMul, Nat.reduceSub, Nat.reduceLeDiff, ↓reduceIte, reduceCtorEq, Int.reduceAdd, Int.reduceSub, Int.reduceMul, Int.reduceNeg, Int.reduceToNat, List.reduceReplicate]
  refine (may_spec G q _ hq hl').mono ?_
  rintro _ _ ⟨rfl, rfl⟩
  cases hm : mayQ q with
  | false =>
    simp (disch := omega) only [go_sem, Nat.reduceEqDiff, Nat.reduceAdd, Nat.reduceMul, Nat.reduceSub, Nat.reduceLeDiff, ↓reduceIte, reduceCtorEq, Int.reduceAdd, Int.reduceSub, Int.reduceMul, Int.reduceNeg, Int.reduceToNat, List.reduceReplicate, hm]
    refine DFin.le (DLe.tuple (.cons .nilIss (.refl _))) (DFin.refl ⟨?_, rfl⟩)
    simp [removeL, hm, dIss]
  | true =>
    by_cases c1 : t < 0
    · simp (disch := omega) only [go_sem, Nat.reduceEqDiff, Nat.reduceAdd, Nat.reduceMul, Nat.reduceSub, Nat.reduceLeDiff, ↓reduceIte, reduceCtorEq, Int.reduceAdd, Int.reduceSub, Int.reduceMul, Int.reduceNeg, Int.reduceToNat, List.reduceReplicate, hm]
      refine DFin.le (DLe.tuple (.cons .nilIss (.refl _))) (DFin.refl ⟨?_, rfl⟩)
      rw [removeL, hm, if_neg (by simp), if_pos (by omega)]; rfl
    by_cases c2 : 32 ≤ t
    · simp (disch := omega) only [go_sem, Nat.reduceEqDiff, Nat.reduceAdd, Nat.reduceMul, Nat.reduceSub, Nat.reduceLeDiff, ↓reduceIte, reduceCtorEq, Int.reduceAdd, Int.reduceSub, Int.reduceMul, Int.reduceNeg, Int.reduceToNat, List.reduceReplicate, hm]
      refine DFin.le (DLe.tuple (.cons .nilIss (.refl _))) (DFin.refl ⟨?_, rfl⟩)
      rw [removeL, hm, if_neg (by simp), if_pos (by omega)]; rfl
    simp (disch := omega) only [go_sem, Nat.reduceEqDiff, Nat.reduceAdd, Nat.reduceMul, Nat.reduceSub, Nat.reduceLeDiff, ↓reduceIte, reduceCtorEq, Int.reduceAdd, Int.reduceSub, Int.reduceMul, Int.reduceNeg, Int.reduceToNat, List.reduceReplicate, hm]
    refine (find_spec G q t _ hq hl').mono ?_
    rintro _ _ ⟨rfl, rfl⟩
    have hr : ∀ x, removeL q t = x ↔ (match findP q t with
      | none => (([], 6) : List (List Int) × Int)
      | some p => (q.set p.1 ((q.getD p.1 []).eraseIdx (idx (q.getD p.1 []) t).toNat), 0)) = x := fun x => by
      rw [removeL, hm, if_neg (by simp), if_neg (by omega)]
    cases hf : findP q t with
    | none =>
      simp (disch := omega) only [go_sem, Nat.reduceEqDiff, Nat.reduceAdd, Nat.reduceMul, Nat.reduceSub, Nat.reduceLeDiff, ↓reduceIte, reduceCtorEq, Int.reduceAdd, Int.reduceSub, Int.reduceMul, Int.reduceNeg, Int.reduceToNat, List.reduceReplicate, findD, hm, hf]
      refine DFin.le (DLe.tuple (.cons .nilIss (.refl _))) (DFin.refl ⟨?_, rfl⟩)
      rw [(hr _).2 (by rw [hf])]; rfl
    | some p =>
      obtain ⟨hp, hp2, hp3⟩ := findP_mem hf
      obtain ⟨i, hi, hil⟩ := idx_found hp3
      have hln := hl q[p.1] (List.getElem_mem hp)
      have hg : q.getD p.1 [] = q[p.1] := by simp [hp]
      simp (disch := omega) only [go_sem, Nat.reduceEqDiff, Nat.reduceAdd, Nat.reduceMul, Nat.reduceSub, Nat.reduceLeDiff, ↓reduceIte, reduceCtorEq, Int.reduceAdd, Int.reduceSub, Int.reduceMul, Int.reduceNeg, Int.reduceToNat, List.reduceReplicate, findD, hm, hf, hg, hi]
      refine (clone_own G q[p.1] _ (by omega)).mono ?_
      rintro _ H1 ⟨v, rfl, hv⟩
      simp (disch := omega) only [go_sem, Nat.reduceEqDiff, Nat.reduceAdd, Nat.reduceMul, Nat.reduceSub, Nat.reduceLeDiff, ↓reduceIte, reduceCtorEq, Int.reduceAdd, Int.reduceSub, Int.reduceMul, Int.reduceNeg, Int.reduceToNat, List.reduceReplicate]
      refine (delete_spec G q[p.1] i v _ _ (by omega) hil hv).mono ?_
      rintro _ _ ⟨rfl, rfl⟩
      simp (disch := omega) only [go_sem, Nat.reduceEqDiff, Nat.reduceAdd, Nat.reduceMul, Nat.reduceSub, Nat.reduceLeDiff, ↓reduceIte, reduceCtorEq, Int.reduceAdd, Int.reduceSub, Int.reduceMul, Int.reduceNeg, Int.reduceToNat, List.reduceReplicate]
      refine (with_spec G q p.1 (q[p.1].eraseIdx i) _ hp hq hl').mono ?_
      rintro _ _ ⟨rfl, rfl⟩
      simp (disch := omega) only [go_sem, Nat.reduceEqDiff, Nat.reduceAdd, Nat.reduceMul, Nat.reduceSub, Nat.reduceLeDiff, ↓reduceIte, reduceCtorEq, Int.reduceAdd, Int.reduceSub, Int.reduceMul, Int.reduceNeg, Int.reduceToNat, List.reduceReplicate]
      refine DFin.refl ⟨?_, rfl⟩
      rw [(hr _).2 (by rw [hf])]
      simp only [hg, hi, Int.toNat_natCast]
      try simp [dIss]

/-- How many callers each entry has. -/
def cntL (q : List (List Int)) : List Int := if mayQ q then q.map fun l => (l.length : Int) else []

theorem clp_count (q : List (List Int)) (s : Nat) (e : Nat) (h : e < q.length) : (clp s q).countP (fun p => p.1 = s + e) = q[e].length := by
  induction q generalizing s e with
  | nil => simp at h
  | cons l q ih =>
    simp only [clp, List.countP_append]
    cases e with
    | zero =>
      have h1 : (clp (s + 1) q).countP (fun p => p.1 = s + 0) = 0 := by
        rw [List.countP_eq_zero]
        intro p hp
        obtain ⟨_, h2, _⟩ := clp_mem hp
        simp; omega
      rw [h1]
      simp [List.countP_map, Function.comp_def]
    | succ e =>
      have h1 : (l.map (fun t => (s, t))).countP (fun p => p.1 = s + (e + 1)) = 0 := by
        rw [List.countP_eq_zero]
        intro p hp
        simp only [List.mem_map] at hp
        obtain ⟨t, _, rfl⟩ := hp
        simp
      have := ih (s + 1) e (by simpa using h)
      rw [h1]
      simp only [List.getElem_cons_succ, Nat.zero_add]
      rw [← this]
      congr 1
      funext p
      congr 1
      apply propext; constructor <;> intro <;> omega

def cntA (q : List (List Int)) (k : Nat) : List DVal := (List.range q.length).map fun e => dI (((clp 0 q).take k).countP (fun p => p.1 = e) : Nat)

theorem cntA_get (q : List (List Int)) (k e : Nat) (h : e < q.length) : (cntA q k)[e]? = some (dI (((clp 0 q).take k).countP (fun p => p.1 = e) : Nat)) := by simp [cntA, h]
theorem cntA_len (q : List (List Int)) (k : Nat) : (cntA q k).length = q.length := by simp [cntA]
theorem cntA_step (q : List (List Int)) (k : Nat) (p : Nat × Int) (h : (clp 0 q)[k]? = some p) (hp : p.1 < q.length) : splice (cntA q k) p.1 [dI ((((clp 0 q).take k).countP (fun x => x.1 = p.1) : Nat) + 1)] = cntA q (k + 1) := by
  have h1 := splice_set (fun e : Nat => dI (((clp 0 q).take (k + 1)).countP (fun x => x.1 = e) : Nat)) (List.range q.length) p.1 p.1 (by simpa using hp)
  have h2 : (List.range q.length).set p.1 p.1 = List.range q.length := by
    apply List.ext_getElem? ; intro j
    rw [List.getElem?_set]
    split
    · rename_i e; subst e; simp [hp]
    · rfl
  rw [h2] at h1
  show _ = (List.range q.length).map _
  rw [← h1]
  unfold splice
  have hs : ∀ e : Nat, ((clp 0 q).take (k + 1)).countP (fun x => x.1 = e) = ((clp 0 q).take k).countP (fun x => x.1 = e) + if p.1 = e then 1 else 0 := fun e => by
    rw [take_succ_get h, List.countP_append]; simp [List.countP_cons]
  have ht : (cntA q k).take p.1 = ((List.range q.length).map (fun e : Nat => dI (((clp 0 q).take (k + 1)).countP (fun x => x.1 = e) : Nat))).take p.1 := by
    apply List.ext_getElem?; intro j
    rw [List.getElem?_take, List.getElem?_take]
    split
    · rename_i hj
      rw [cntA_get _ _ _ (by omega)]
      simp only [List.getElem?_map, List.getElem?_range (show j < q.length by omega), Option.map_some, hs]
      rw [if_neg (by omega)]; rfl
    · rfl
  have hd : (cntA q k).drop (p.1 + 1) = ((List.range q.length).map (fun e : Nat => dI (((clp 0 q).take (k + 1)).countP (fun x => x.1 = e) : Nat))).drop (p.1 + 1) := by
    apply List.ext_getElem?; intro j
    rw [List.getElem?_drop, List.getElem?_drop]
    by_cases hj : p.1 + 1 + j < q.length
    · rw [cntA_get _ _ _ hj]
      simp only [List.getElem?_map, List.getElem?_range hj, Option.map_some, hs]
      rw [if_neg (by omega)]; rfl
    · rw [List.getElem?_eq_none (by rw [cntA_len]; omega), List.getElem?_eq_none (by simp; omega)]
  simp only [List.length_cons, List.length_nil, Nat.zero_add]
  rw [ht, hd, hs, if_pos rfl]
  rfl

theorem cntA_all (q : List (List Int)) : cntA q (clp 0 q).length = (q.map fun l => (l.length : Int)).map dI := by
  apply List.ext_getElem?; intro j
  by_cases hj : j < q.length
  · rw [cntA_get _ _ _ hj, List.take_length]
    have := clp_count q 0 j hj
    simp only [Nat.zero_add] at this
    simp [hj, this]
  · rw [List.getElem?_eq_none (by rw [cntA_len]; omega), List.getElem?_eq_none (by simp; omega)]

theorem counts_spec (G : Nat → DVal) (q : List (List Int)) (H : DHeap) (hq : q.length ≤ 1099511627776) (hl : ∀ l ∈ q, l.length ≤ 1000000000) (hf : q.flatten.length ≤ 1099511627776) : DCalls Try.prog G 30 [dIss q] H (DRet (dIs (cntL q)) H) := by
  have hl' : ∀ l ∈ q, l.length ≤ 1099511627776 := fun l h => Nat.le_trans (hl l h) (by omega)
  refine dcalls_intro Try.func30 Try.call30 rfl (by kernel_rfl) ?_
  simp (disch := omega) only [go_sem, Nat.reduceEqDiff, Nat.reduceAdd, Nat.reduceMul, Nat.reduceSub, Nat.reduceLeDiff, ↓reduceIte, reduceCtorEq, Int.reduceAdd, Int.reduceSub, Int.reduceMul, Int.reduceNeg, Int.reduceToNat, List.reduceReplicate]
  refine (may_spec G q _ hq hl').mono ?_
  rintro _ _ ⟨rfl, rfl⟩
  cases hm : mayQ q with
  | false =>
    simp (disch := omega) only [go_sem, Nat.reduceEqDiff, Nat.reduceAdd, Nat.reduceMul, Nat.reduceSub, Nat.reduceLeDiff, ↓reduceIte, reduceCtorEq, Int.reduceAdd, Int.reduceSub, Int.reduceMul, Int.reduceNeg, Int.reduceToNat, List.reduceReplicate, hm]
    exact DFin.le .nilIs (DFin.refl ⟨by simp [cntL, hm, dIs], rfl⟩)
  | true =>
    simp (disch := omega) only [go_sem, Nat.reduceEqDiff, Nat.reduceAdd, Nat.reduceMul, Nat.reduceSub, Nat.reduceLeDiff, ↓reduceIte, reduceCtorEq, Int.reduceAdd, Int.reduceSub, Int.reduceMul, Int.reduceNeg, Int.reduceToNat, List.reduceReplicate, hm]
    intro r hr; dsimp only at hr
    simp (disch := omega) only [go_sem, Nat.reduceEqDiff, Nat.reduceAdd, Nat.reduceMul, Nat.reduceSub, Nat.reduceLeDiff, ↓reduceIte, reduceCtorEq, Int.reduceAdd, Int.reduceSub, Int.reduceMul, Int.reduceNeg, Int.reduceToNat, List.reduceReplicate]
    intro r3 h3; dsimp only at h3
    simp only [upd_eq_none] at h3
    simp (disch := omega) only [go_sem, Nat.reduceEqDiff, Nat.reduceAdd, Nat.reduceMul, Nat.reduceSub, Nat.reduceLeDiff, ↓reduceIte, reduceCtorEq, Int.reduceAdd, Int.reduceSub, Int.reduceMul, Int.reduceNeg, Int.reduceToNat, List.reduceReplicate, h3]
    rename_i H
    obtain ⟨X0, hX, D0, g1, g3⟩ : ∃ X0, upd (upd H r (some (.cells (List.replicate q.length (dI 0)) 3))) r3 (some (.cells [.oslice 1 r 0 q.length q.length] 37)) = over H X0 ∧ Disj H X0 ∧ X0 r = some (.cells (cntA q 0) 3) ∧ X0 r3 = some (.cells [.oslice 1 r 0 q.length q.length] 37) :=
      ⟨upd (upd h0 r (some (.cells (List.replicate q.length (dI 0)) 3))) r3 (some (.cells [.oslice 1 r 0 q.length q.length] 37)), by simp only [← upd_over, over_h0], ((Disj.h0 H).hi hr _).hi h3.2.2 _, by
        simp [upd, h3]
        apply List.ext_getElem?; intro j
        by_cases hj : j < q.length
        · rw [cntA_get _ _ _ hj]; simp [hj]
        · rw [List.getElem?_eq_none (by simp; omega), List.getElem?_eq_none (by rw [cntA_len]; omega)], by simp [upd]⟩
    rw [hX]
    refine (callers_spec G q _).mono ?_
    rintro _ _ ⟨rfl, rfl⟩
    simp (disch := omega) only [go_sem, Nat.reduceEqDiff, Nat.reduceAdd, Nat.reduceMul, Nat.reduceSub, Nat.reduceLeDiff, ↓reduceIte, reduceCtorEq, Int.reduceAdd, Int.reduceSub, Int.reduceMul, Int.reduceNeg, Int.reduceToNat, List.reduceReplicate]
    refine dwp_range 84 _ (cl 0 q) (callers1_iter G q hq hl') rfl (by kernel_rfl) (cl_len 0 q) H X0 rfl D0
      (fun k X => X r = some (.cells (cntA q k) 3) ∧ X r3 = some (.cells [.oslice 1 r 0 q.length q.length] 37))
      (fun c X => False) ⟨g1, g3⟩ ?_ ?_ ?_
    · rintro k x Hi X d1 hx ⟨g1, g3⟩
      obtain ⟨⟨e, u⟩, hp, rfl⟩ := cl_get hx
      obtain ⟨he, _, hu⟩ := clp_mem (List.mem_of_getElem? hp)
      simp only [Nat.sub_zero] at he hu
      have hcb : ((clp 0 q).take k).countP (fun p => p.1 = e) ≤ 1099511627776 := by
        refine Nat.le_trans List.countP_le_length ?_
        rw [List.length_take]
        have : (clp 0 q).length = q.flatten.length := by rw [← clp_snd 0, List.length_map]
        omega
      have o1 := over_x (Hi := Hi) g1
      have o3 := over_x (Hi := Hi) g3
      simp (disch := omega) only [go_sem, Nat.reduceEqDiff, Nat.reduceAdd, Nat.reduceMul, Nat.reduceSub, Nat.reduceLeDiff, ↓reduceIte, reduceCtorEq, Int.reduceAdd, Int.reduceSub, Int.reduceMul, Int.reduceNeg, Int.reduceToNat, List.reduceReplicate, h3, o1, o3, cntA_get _ _ _ he, cntA_len]
      rw [show splice (cntA q k) e _ = _ from cntA_step q k (e, u) hp he]
      exact ⟨_, rfl, d1.st g1 _, by simp [upd], by simp [upd, h3, g3]⟩
    · rintro X d1 ⟨g1, g3⟩
      have o1 := over_x (Hi := H) g1
      have o3 := over_x (Hi := H) g3
      simp (disch := omega) only [go_sem, Nat.reduceEqDiff, Nat.reduceAdd, Nat.reduceMul, Nat.reduceSub, Nat.reduceLeDiff, ↓reduceIte, reduceCtorEq, Int.reduceAdd, Int.reduceSub, Int.reduceMul, Int.reduceNeg, Int.reduceToNat, List.reduceReplicate, o1, o3]
      rw [show (cl 0 q).length = (clp 0 q).length by simp [cl], cntA_all] at g1
      have o1 := over_x (Hi := H) g1
      refine DFin.fz r o1 ?_
      rw [upd_over_none (d1 r (by simp [g1]))]
      refine DFin.over (fun b hb => d1 b (fun e => hb (by simp only [upd]; split; rfl; exact e))) ⟨?_, rfl⟩
      simp only [cntL, hm, if_true, dIs, fz, if_pos, List.drop_zero, List.length_map]
      rw [List.take_of_length_le (by simp)]
    · rintro c X _ h
      exact h.elim

/-- Entry e has a caller. -/
def hasC (n : List Int) (e : Int) : Bool := decide (0 ≤ e ∧ e < n.length ∧ 0 < n.getD e.toNat 0)

theorem choose1_spec (G : Nat → DVal) (n : List Int) (e : Int) (r : Nat) (H : DHeap) (hr : H r = some (.cells [dIs n] 37)) : DCalls Try.prog G 70 [dI e, .optr r 0] H (DRet (.bool (hasC n e)) H) := by
  refine dcalls_intro Try.func70 Try.call70 rfl (by kernel_rfl) ?_
  by_cases c1 : 0 ≤ e
  · by_cases c2 : e < n.length
    · obtain ⟨i, rfl⟩ : ∃ i : Nat, e = i := ⟨e.toNat, by omega⟩
      have hi : i < n.length := by omega
      simp (disch := omega) only [go_sem, Nat.reduceEqDiff, Nat.reduceAdd, Nat.reduceMul, Nat.reduceSub, Nat.reduceLeDiff, ↓reduceIte, reduceCtorEq, Int.reduceAdd, Int.reduceSub, Int.reduceMul, Int.reduceNeg, Int.reduceToNat, List.reduceReplicate, hr]
      refine DFin.refl ⟨?_, rfl⟩
      simp [hasC, hi]
    · simp (disch := omega) only [go_sem, Nat.reduceEqDiff, Nat.reduceAdd, Nat.reduceMul, Nat.reduceSub, Nat.reduceLeDiff, ↓reduceIte, reduceCtorEq, Int.reduceAdd, Int.reduceSub, Int.reduceMul, Int.reduceNeg, Int.reduceToNat, List.reduceReplicate, hr]
      refine DFin.refl ⟨?_, rfl⟩
      simp [hasC, c2]
  · simp (disch := omega) only [go_sem, Nat.reduceEqDiff, Nat.reduceAdd, Nat.reduceMul, Nat.reduceSub, Nat.reduceLeDiff, ↓reduceIte, reduceCtorEq, Int.reduceAdd, Int.reduceSub, Int.reduceMul, Int.reduceNeg, Int.reduceToNat, List.reduceReplicate, hr]
    refine DFin.refl ⟨?_, rfl⟩
    simp [hasC, c1]

/-- The first index of l whose entry has a caller. -/
def chooseI (q : List (List Int)) (l : List Int) : Option Nat := l.findIdx? (hasC (cntL q))
def chooseD (q : List (List Int)) (l : List Int) : DVal := match chooseI q l with | some i => .tuple [dI i, .bool true] | none => .tuple [dI 0, .bool false]

theorem choose_spec (G : Nat → DVal) (q : List (List Int)) (l : List Int) (H : DHeap) (hq : q.length ≤ 1099511627776) (hl : ∀ l ∈ q, l.length ≤ 1000000000) (hf : q.flatten.length ≤ 1099511627776) (hll : l.length ≤ 1099511627776) : DCalls Try.prog G 23 [dIss q, dIs l] H (DRet (chooseD q l) H) := by
  refine dcalls_intro Try.func23 Try.call23 rfl (by kernel_rfl) ?_
  simp (disch := omega) only [go_sem, Nat.reduceEqDiff, Nat.reduceAdd, Nat.reduceMul, Nat.reduceSub, Nat.reduceLeDiff, ↓reduceIte, reduceCtorEq, Int.reduceAdd, Int.reduceSub, Int.reduceMul, Int.reduceNeg, Int.reduceToNat, List.reduceReplicate]
  refine (counts_spec G q _ hq hl hf).mono ?_
  rintro _ _ ⟨rfl, rfl⟩
  simp (disch := omega) only [go_sem, Nat.reduceEqDiff, Nat.reduceAdd, Nat.reduceMul, Nat.reduceSub, Nat.reduceLeDiff, ↓reduceIte, reduceCtorEq, Int.reduceAdd, Int.reduceSub, Int.reduceMul, Int.reduceNeg, Int.reduceToNat, List.reduceReplicate]
  intro r hr; dsimp only at hr
  simp (disch := omega) only [go_sem, Nat.reduceEqDiff, Nat.reduceAdd, Nat.reduceMul, Nat.reduceSub, Nat.reduceLeDiff, ↓reduceIte, reduceCtorEq, Int.reduceAdd, Int.reduceSub, Int.reduceMul, Int.reduceNeg, Int.reduceToNat, List.reduceReplicate]
  refine (indexFunc_spec G l 70 [.optr r 0] (hasC (cntL q)) _ hll (fun x hx => choose1_spec G (cntL q) x r _ (upd_same _ _ _))).mono ?_
  rintro _ _ ⟨rfl, rfl⟩
  cases hc : l.findIdx? (hasC (cntL q)) with
  | some i =>
    have hi : idxF l (hasC (cntL q)) = i := by rw [idxF, hc]
    simp (disch := omega) only [go_sem, Nat.reduceEqDiff, Nat.reduceAdd, Nat.reduceMul, Nat.reduceSub, Nat.reduceLeDiff, ↓reduceIte, reduceCtorEq, Int.reduceAdd, Int.reduceSub, Int.reduceMul, Int.reduceNeg, Int.reduceToNat, List.reduceReplicate, hi]
    refine DFin.dropA r hr (DFin.refl ⟨?_, rfl⟩)
    rw [chooseD, chooseI, hc, if_neg (by omega)]
  | none =>
    have hi : idxF l (hasC (cntL q)) = -1 := by rw [idxF, hc]
    simp (disch := omega) only [go_sem, Nat.reduceEqDiff, Nat.reduceAdd, Nat.reduceMul, Nat.reduceSub, Nat.reduceLeDiff, ↓reduceIte, reduceCtorEq, Int.reduceAdd, Int.reduceSub, Int.reduceMul, Int.reduceNeg, Int.reduceToNat, List.reduceReplicate, hi]
    refine DFin.dropA r hr (DFin.refl ⟨?_, rfl⟩)
    rw [chooseD, chooseI, hc]; rfl
end Go.Dl

-- 
namespace Go.Dl
open Go Go.Proofs
set_option maxRecDepth 10000

-- ceilingref31.task
theorem task_spec (G : Nat → DVal) (t : Int) (H : DHeap) : DCalls Try.prog G 64 [.int .i64 t] H fun e H' => e = .ret (.bool (decide (0 ≤ t ∧ t < 32))) ∧ H' = H := by
  refine dcalls_intro Try.func64 Try.call64 rfl (by kernel_rfl) ?_
  simp (disch := omega) only [go_sem, Nat.reduceEqDiff, Nat.reduceAdd, Nat.reduceMul, Nat.reduceSub, Nat.reduceLeDiff, ↓reduceIte, reduceCtorEq, Int.reduceAdd, Int.reduceSub, Int.reduceMul, Int.reduceNeg, Int.reduceToNat, List.reduceReplicate]
  refine dGuard_cases (fun h => ?_) (fun h => ?_) <;> simp (disch := omega) only [go_sem, Nat.reduceEqDiff, Nat.reduceAdd, Nat.reduceMul, Nat.reduceSub, Nat.reduceLeDiff, ↓reduceIte, reduceCtorEq, Int.reduceAdd, Int.reduceSub, Int.reduceMul, Int.reduceNeg, Int.reduceToNat, List.reduceReplicate, h] <;> refine DFin.refl ⟨?_, rfl⟩ <;> simp_all <;> omega

/-- How often a task is in a list of lists, and where it is first: what the walk counts. -/
abbrev PSt := Int × Int × Int
def pl1 (t e : Int) : List Int → Int → PSt → PSt
  | [], _, s => s
  | x :: xs, i, (n, en, at') => pl1 t e xs (i + 1) (if x = t then (n + 1, if n = 0 then (e, i) else (en, at')) else (n, en, at'))
def pl2 (t : Int) : List (List Int) → Int → PSt → PSt
  | [], _, s => s
  | l :: q, e, s => pl2 t q (e + 1) (pl1 t e l 0 s)

def tot (q : List (List Int)) : Nat := (q.map List.length).sum

theorem tot_drop (q : List (List Int)) (k : Nat) (h : k < q.length) : tot (q.drop k) = q[k].length + tot (q.drop (k + 1)) := by
  unfold tot; rw [List.drop_eq_getElem_cons h, List.map_cons, List.sum_cons]

theorem place_spec (G : Nat → DVal) (q : List (List Int)) (t : Int) (H : DHeap) (hq : q.length ≤ 1099511627776) (hb : tot q ≤ 1099511627776) (hl : ∀ l ∈ q, l.length ≤ 1099511627776) : DCalls Try.prog G 65 [dIss q, dI t] H fun e H' => e = .ret (.tuple [dI (pl2 t q 0 (0, 0, 0)).1, dI (pl2 t q 0 (0, 0, 0)).2.1, dI (pl2 t q 0 (0, 0, 0)).2.2]) ∧ H' = H := by
  refine dcalls_intro Try.func65 Try.call65 rfl (by kernel_rfl) ?_
  simp (disch := omega) only [go_sem, Nat.reduceEqDiff, Nat.reduceAdd, Nat.reduceMul, Nat.reduceSub, Nat.reduceLeDiff, ↓reduceIte, reduceCtorEq, Int.reduceAdd, Int.reduceSub, Int.reduceMul, Int.reduceNeg, Int.reduceToNat, List.reduceReplicate]
  refine DLoop.run (fun (k : Nat) env heap => heap = H ∧ env 0 = dIss q ∧ env 1 = dI t ∧ env 10 = dI k ∧ k ≤ q.length ∧ ∃ n en at' : Int, env 7 = dI n ∧ env 8 = dI en ∧ env 9 = dI at' ∧ 0 ≤ n ∧ n + tot (q.drop k) ≤ tot q ∧ pl2 t (q.drop k) k (n, en, at') = pl2 t q 0 (0, 0, 0)) (fun k => q.length - k) 0 ?_ ?_
  · simp (disch := omega) only [go_sem, Nat.reduceEqDiff, Nat.reduceAdd, Nat.reduceMul, Nat.reduceSub, Nat.reduceLeDiff, ↓reduceIte, reduceCtorEq, Int.reduceAdd, Int.reduceSub, Int.reduceMul, Int.reduceNeg, Int.reduceToNat, List.reduceReplicate]
    refine ⟨rfl, 0, 0, 0, rfl, rfl, rfl, by omega, by simp, by simp⟩
  · rintro k env heap ⟨rfl, h0, h1, h10, hk, n, en, at', h7, h8, h9, hn, htot, hpl⟩
    by_cases hlt : k < q.length
    · simp (disch := omega) only [go_sem, Nat.reduceEqDiff, Nat.reduceAdd, Nat.reduceMul, Nat.reduceSub, Nat.reduceLeDiff, ↓reduceIte, reduceCtorEq, Int.reduceAdd, Int.reduceSub, Int.reduceMul, Int.reduceNeg, Int.reduceToNat, List.reduceReplicate, h0, h1, h10, h7, h8, h9]
      refine DLoop.run (fun (i : Nat) env heap' => heap' = heap ∧ env 0 = dIss q ∧ env 1 = dI t ∧ env 10 = dI k ∧ env 11 = dI i ∧ i ≤ q[k].length ∧ ∃ n en at' : Int, env 7 = dI n ∧ env 8 = dI en ∧ env 9 = dI at' ∧ 0 ≤ n ∧ n + (q[k].length - i : Nat) + tot (q.drop (k + 1)) ≤ tot q ∧ pl2 t (q.drop (k + 1)) (k + 1) (pl1 t k (q[k].drop i) i (n, en, at')) = pl2 t q 0 (0, 0, 0)) (fun i => q[k].length - i) 0 ?_ ?_
      · simp (disch := omega) only [go_sem, Nat.reduceEqDiff, Nat.reduceAdd, Nat.reduceMul, Nat.reduceSub, Nat.reduceLeDiff, ↓reduceIte, reduceCtorEq, Int.reduceAdd, Int.reduceSub, Int.reduceMul, Int.reduceNeg, Int.reduceToNat, List.reduceReplicate, h0, h1, h10, h7, h8, h9]
        refine ⟨rfl, n, en, at', rfl, rfl, rfl, hn, ?_, ?_⟩
        · have := tot_drop q k hlt; omega
        · rw [← hpl, List.drop_eq_getElem_cons hlt]; rfl
      · rintro i env heap ⟨rfl, h0, h1, h10, h11, hi, n, en, at', h7, h8, h9, hn, htot, hpl⟩
        have hkl := hl _ (List.getElem_mem hlt)
        by_cases hlt' : i < q[k].length
        · rw [List.drop_eq_getElem_cons hlt'] at hpl
          by_cases hx : q[k][i] = t
          · by_cases hn0 : n = 0
            · simp (disch := omega) only [go_sem, Nat.reduceEqDiff, Nat.reduceAdd, Nat.reduceMul, Nat.reduceSub, Nat.reduceLeDiff, ↓reduceIte, reduceCtorEq, Int.reduceAdd, Int.reduceSub, Int.reduceMul, Int.reduceNeg, Int.reduceToNat, List.reduceReplicate, h0, h1, h10, h7, h8, h9, h11, hx, hn0]
              refine ⟨i + 1, _, GhostS.refl _, ?_, by omega⟩
              simp (disch := omega) only [go_sem, Nat.reduceEqDiff, Nat.reduceAdd, Nat.reduceMul, Nat.reduceSub, Nat.reduceLeDiff, ↓reduceIte, reduceCtorEq, Int.reduceAdd, Int.reduceSub, Int.reduceMul, Int.reduceNeg, Int.reduceToNat, List.reduceReplicate, h0, h1, h10, h7, h8, h9, h11]
              subst hn0
              refine ⟨rfl, _, _, _, rfl, rfl, rfl, by omega, by omega, ?_⟩
              rw [← hpl]; simp [pl1, hx]
            · simp (disch := omega) only [go_sem, Nat.reduceEqDiff, Nat.reduceAdd, Nat.reduceMul, Nat.reduceSub, Nat.reduceLeDiff, ↓reduceIte, reduceCtorEq, Int.reduceAdd, Int.reduceSub, Int.reduceMul, Int.reduceNeg, Int.reduceToNat, List.reduceReplicate, h0, h1, h10, h7, h8, h9, h11, hx]
              refine ⟨i + 1, _, GhostS.refl _, ?_, by omega⟩
              simp (disch := omega) only [go_sem, Nat.reduceEqDiff, Nat.reduceAdd, Nat.reduceMul, Nat.reduceSub, Nat.reduceLeDiff, ↓reduceIte, reduceCtorEq, Int.reduceAdd, Int.reduceSub, Int.reduceMul, Int.reduceNeg, Int.reduceToNat, List.reduceReplicate, h0, h1, h10, h7, h8, h9, h11]
              refine ⟨rfl, _, _, _, rfl, rfl, rfl, by omega, by omega, ?_⟩
              rw [← hpl]; simp [pl1, hx, hn0]
          · simp (disch := omega) only [go_sem, Nat.reduceEqDiff, Nat.reduceAdd, Nat.reduceMul, Nat.reduceSub, Nat.reduceLeDiff, ↓reduceIte, reduceCtorEq, Int.reduceAdd, Int.reduceSub, Int.reduceMul, Int.reduceNeg, Int.reduceToNat, List.reduceReplicate, h0, h1, h10, h7, h8, h9, h11, hx]
            refine ⟨i + 1, _, GhostS.refl _, ?_, by omega⟩
            simp (disch := omega) only [go_sem, Nat.reduceEqDiff, Nat.reduceAdd, Nat.reduceMul, Nat.reduceSub, Nat.reduceLeDiff, ↓reduceIte, reduceCtorEq, Int.reduceAdd, Int.reduceSub, Int.reduceMul, Int.reduceNeg, Int.reduceToNat, List.reduceReplicate, h0, h1, h10, h7, h8, h9, h11]
            refine ⟨rfl, _, _, _, rfl, rfl, rfl, by omega, by omega, ?_⟩
            rw [← hpl]; simp [pl1, hx]
        · simp (disch := omega) only [go_sem, Nat.reduceEqDiff, Nat.reduceAdd, Nat.reduceMul, Nat.reduceSub, Nat.reduceLeDiff, ↓reduceIte, reduceCtorEq, Int.reduceAdd, Int.reduceSub, Int.reduceMul, Int.reduceNeg, Int.reduceToNat, List.reduceReplicate, h0, h1, h10, h7, h8, h9, h11]
          refine ⟨k + 1, _, GhostS.refl _, ?_, by omega⟩
          simp (disch := omega) only [go_sem, Nat.reduceEqDiff, Nat.reduceAdd, Nat.reduceMul, Nat.reduceSub, Nat.reduceLeDiff, ↓reduceIte, reduceCtorEq, Int.reduceAdd, Int.reduceSub, Int.reduceMul, Int.reduceNeg, Int.reduceToNat, List.reduceReplicate, h0, h1, h10, h7, h8, h9, h11]
          refine ⟨rfl, n, en, at', rfl, rfl, rfl, hn, by omega, ?_⟩
          have : i = q[k].length := by omega
          subst this
          rw [← hpl]; simp [pl1]
    · simp (disch := omega) only [go_sem, Nat.reduceEqDiff, Nat.reduceAdd, Nat.reduceMul, Nat.reduceSub, Nat.reduceLeDiff, ↓reduceIte, reduceCtorEq, Int.reduceAdd, Int.reduceSub, Int.reduceMul, Int.reduceNeg, Int.reduceToNat, List.reduceReplicate, h0, h1, h10, h7, h8, h9]
      refine DFin.refl ⟨?_, rfl⟩
      have : k = q.length := by omega
      subst this
      rw [← hpl]; simp [pl2]
end Go.Dl

-- The reference of chapter 31: Ints, Same, New, Copy, place, May.
namespace Go.Dl
open Go Go.Proofs
set_option maxRecDepth 10000

theorem take_eq_step {α : Type} {a b : List α} {i : Nat} (ha : i < a.length) (hb : i < b.length) (h : a.take i = b.take i) (e : a[i] = b[i]) : a.take (i + 1) = b.take (i + 1) := by
  rw [List.take_add_one, List.take_add_one, List.getElem?_eq_getElem ha, List.getElem?_eq_getElem hb, h, e]

theorem ints_spec (G : Nat → DVal) (a b : List Int) (H : DHeap) (ha : a.length ≤ 1099511627776) (hb : b.length ≤ 1099511627776) : DCalls Try.prog G 29 [dIs a, dIs b] H (DRet (.bool (decide (a = b))) H) := by
  refine dcalls_intro Try.func29 Try.call29 rfl (by kernel_rfl) ?_
  by_cases hl : a.length = b.length
  · simp (disch := omega) only [go_sem, Nat.reduceEqDiff, Nat.reduceAdd, Nat.reduceMul, Nat.reduceSub, Nat.reduceLeDiff, ↓reduceIte, reduceCtorEq, Int.reduceAdd, Int.reduceSub, Int.reduceMul, Int.reduceNeg, Int.reduceToNat, List.reduceReplicate, hl]
    obtain ⟨I, hI⟩ : ∃ I : Nat → (Nat → DVal) → DHeap → Prop, ∀ i env heap, I i env heap ↔ (H = heap ∧ env 0 = dIs a ∧ env 1 = dIs b ∧ env 5 = dI i ∧ i ≤ a.length ∧ a.take i = b.take i) := ⟨_, fun _ _ _ => Iff.rfl⟩
    refine DLoop.run I (fun i => a.length - i) 0 ((hI _ _ _).2 ?_) ?_
    · simp (disch := omega) only [go_sem, Nat.reduceEqDiff, Nat.reduceAdd, Nat.reduceMul, Nat.reduceSub, Nat.reduceLeDiff, ↓reduceIte, reduceCtorEq, Int.reduceAdd, Int.reduceSub, Int.reduceMul, Int.reduceNeg, Int.reduceToNat, List.reduceReplicate]
      simp [dIs, hl]
    · intro i env heap hi
      obtain ⟨rfl, h0, h1, h5, hi, ht⟩ := (hI _ _ _).1 hi
      by_cases hlt : i < a.length
      · have hlt' : i < b.length := by omega
        by_cases hx : a[i] = b[i]
        · simp (disch := omega) only [go_sem, Nat.reduceEqDiff, Nat.reduceAdd, Nat.reduceMul, Nat.reduceSub, Nat.reduceLeDiff, ↓reduceIte, reduceCtorEq, Int.reduceAdd, Int.reduceSub, Int.reduceMul, Int.reduceNeg, Int.reduceToNat, List.reduceReplicate, h0, h1, h5, hx]
          refine dwp_draws (by kernel_rfl) (.take 0 (.take 1 (.take 2 (.take 3 (.take 4 (.take 5 (.take 6 (.take 7 (.take 8 .done))))))))) (by kernel_rfl) ?_
          simp (disch := omega) only [go_sem, Nat.reduceEqDiff, Nat.reduceAdd, Nat.reduceMul, Nat.reduceSub, Nat.reduceLeDiff, ↓reduceIte, reduceCtorEq, Int.reduceAdd, Int.reduceSub, Int.reduceMul, Int.reduceNeg, Int.reduceToNat, List.reduceReplicate, h0, h1, h5, hx]
          refine ⟨i + 1, _, GhostS.refl _, (hI _ _ _).2 ?_, by omega⟩
          simp (disch := omega) only [go_sem, Nat.reduceEqDiff, Nat.reduceAdd, Nat.reduceMul, Nat.reduceSub, Nat.reduceLeDiff, ↓reduceIte, reduceCtorEq, Int.reduceAdd, Int.reduceSub, Int.reduceMul, Int.reduceNeg, Int.reduceToNat, List.reduceReplicate, h0, h1, h5]
          (repeat' apply And.intro) <;> (try first | rfl | assumption | omega)
          exact take_eq_step hlt hlt' ht hx
        · simp (disch := omega) only [go_sem, Nat.reduceEqDiff, Nat.reduceAdd, Nat.reduceMul, Nat.reduceSub, Nat.reduceLeDiff, ↓reduceIte, reduceCtorEq, Int.reduceAdd, Int.reduceSub, Int.reduceMul, Int.reduceNeg, Int.reduceToNat, List.reduceReplicate, h0, h1, h5, hx]
          refine dwp_draws (by kernel_rfl) (.take 0 (.take 1 (.take 2 (.take 3 (.take 4 (.take 5 (.take 6 (.take 7 (.take 8 .done))))))))) (by kernel_rfl) ?_
          simp (disch := omega) only [go_sem, Nat.reduceEqDiff, Nat.reduceAdd, Nat.reduceMul, Nat.reduceSub, Nat.reduceLeDiff, ↓reduceIte, reduceCtorEq, Int.reduceAdd, Int.reduceSub, Int.reduceMul, Int.reduceNeg, Int.reduceToNat, List.reduceReplicate, h0, h1, h5, hx]
          refine DFin.refl ⟨?_, rfl⟩
          rw [decide_eq_false (fun e => hx (by subst e; rfl))]
      · simp (disch := omega) only [go_sem, Nat.reduceEqDiff, Nat.reduceAdd, Nat.reduceMul, Nat.reduceSub, Nat.reduceLeDiff, ↓reduceIte, reduceCtorEq, Int.reduceAdd, Int.reduceSub, Int.reduceMul, Int.reduceNeg, Int.reduceToNat, List.reduceReplicate, h0, h1, h5]
        refine DFin.refl ⟨?_, rfl⟩
        have : a = b := by
          rw [List.take_of_length_le (by omega), List.take_of_length_le (by omega)] at ht; exact ht
        rw [decide_eq_true this]
  · simp (disch := omega) only [go_sem, Nat.reduceEqDiff, Nat.reduceAdd, Nat.reduceMul, Nat.reduceSub, Nat.reduceLeDiff, ↓reduceIte, reduceCtorEq, Int.reduceAdd, Int.reduceSub, Int.reduceMul, Int.reduceNeg, Int.reduceToNat, List.reduceReplicate, hl]
    refine DFin.refl ⟨?_, rfl⟩
    rw [decide_eq_false (fun e => hl (by rw [e]))]

theorem same_spec (G : Nat → DVal) (a b : List (List Int)) (H : DHeap) (ha : a.length ≤ 1099511627776) (hb : b.length ≤ 1099511627776) (hal : ∀ l ∈ a, l.length ≤ 1099511627776) (hbl : ∀ l ∈ b, l.length ≤ 1099511627776) : DCalls Try.prog G 17 [dIss a, dIss b] H (DRet (.bool (decide (a = b))) H) := by
  refine dcalls_intro Try.func17 Try.call17 rfl (by kernel_rfl) ?_
  by_cases hl : a.length = b.length
  · simp (disch := omega) only [go_sem, Nat.reduceEqDiff, Nat.reduceAdd, Nat.reduceMul, Nat.reduceSub, Nat.reduceLeDiff, ↓reduceIte, reduceCtorEq, Int.reduceAdd, Int.reduceSub, Int.reduceMul, Int.reduceNeg, Int.reduceToNat, List.reduceReplicate, hl]
    obtain ⟨I, hI⟩ : ∃ I : Nat → (Nat → DVal) → DHeap → Prop, ∀ i env heap, I i env heap ↔ (H = heap ∧ env 0 = dIss a ∧ env 1 = dIss b ∧ env 5 = dI i ∧ i ≤ a.length ∧ a.take i = b.take i) := ⟨_, fun _ _ _ => Iff.rfl⟩
    refine DLoop.run I (fun i => a.length - i) 0 ((hI _ _ _).2 ?_) ?_
    · simp (disch := omega) only [go_sem, Nat.reduceEqDiff, Nat.reduceAdd, Nat.reduceMul, Nat.reduceSub, Nat.reduceLeDiff, ↓reduceIte, reduceCtorEq, Int.reduceAdd, Int.reduceSub, Int.reduceMul, Int.reduceNeg, Int.reduceToNat, List.reduceReplicate]
      simp [dIss, hl]
    · intro i env heap hi
      obtain ⟨rfl, h0, h1, h5, hi, ht⟩ := (hI _ _ _).1 hi
      by_cases hlt : i < a.length
      · have hlt' : i < b.length := by omega
        simp (disch := omega) only [go_sem, Nat.reduceEqDiff, Nat.reduceAdd, Nat.reduceMul, Nat.reduceSub, Nat.reduceLeDiff, ↓reduceIte, reduceCtorEq, Int.reduceAdd, Int.reduceSub, Int.reduceMul, Int.reduceNeg, Int.reduceToNat, List.reduceReplicate, h0, h1, h5]
        refine dwp_draws (by kernel_rfl) (.take 0 (.take 1 (.take 2 (.take 3 (.take 4 (.take 5 (.take 6 (.take 7 (.go 8 [] (.take 9 .done)))))))))) (by kernel_rfl) ?_
        simp (disch := omega) only [go_sem, Nat.reduceEqDiff, Nat.reduceAdd, Nat.reduceMul, Nat.reduceSub, Nat.reduceLeDiff, ↓reduceIte, reduceCtorEq, Int.reduceAdd, Int.reduceSub, Int.reduceMul, Int.reduceNeg, Int.reduceToNat, List.reduceReplicate, h0, h1, h5]
        refine (ints_spec G a[i] b[i] _ (hal _ (List.getElem_mem hlt)) (hbl _ (List.getElem_mem hlt'))).mono ?_
        rintro _ _ ⟨rfl, rfl⟩
        by_cases hx : a[i] = b[i]
        · simp (disch := omega) only [go_sem, Nat.reduceEqDiff, Nat.reduceAdd, Nat.reduceMul, Nat.reduceSub, Nat.reduceLeDiff, ↓reduceIte, reduceCtorEq, Int.reduceAdd, Int.reduceSub, Int.reduceMul, Int.reduceNeg, Int.reduceToNat, List.reduceReplicate, h0, h1, h5, hx]
          refine ⟨i + 1, _, GhostS.refl _, (hI _ _ _).2 ?_, by omega⟩
          simp (disch := omega) only [go_sem, Nat.reduceEqDiff, Nat.reduceAdd, Nat.reduceMul, Nat.reduceSub, Nat.reduceLeDiff, ↓reduceIte, reduceCtorEq, Int.reduceAdd, Int.reduceSub, Int.reduceMul, Int.reduceNeg, Int.reduceToNat, List.reduceReplicate, h0, h1, h5]
          (repeat' apply And.intro) <;> (try first | rfl | assumption | omega)
          exact take_eq_step hlt hlt' ht hx
        · simp (disch := omega) only [go_sem, Nat.reduceEqDiff, Nat.reduceAdd, Nat.reduceMul, Nat.reduceSub, Nat.reduceLeDiff, ↓reduceIte, reduceCtorEq, Int.reduceAdd, Int.reduceSub, Int.reduceMul, Int.reduceNeg, Int.reduceToNat, List.reduceReplicate, h0, h1, h5, hx]
          refine DFin.refl ⟨?_, rfl⟩
          rw [decide_eq_false (fun e => hx (by subst e; rfl))]
      · simp (disch := omega) only [go_sem, Nat.reduceEqDiff, Nat.reduceAdd, Nat.reduceMul, Nat.reduceSub, Nat.reduceLeDiff, ↓reduceIte, reduceCtorEq, Int.reduceAdd, Int.reduceSub, Int.reduceMul, Int.reduceNeg, Int.reduceToNat, List.reduceReplicate, h0, h1, h5]
        refine DFin.refl ⟨?_, rfl⟩
        have : a = b := by
          rw [List.take_of_length_le (by omega), List.take_of_length_le (by omega)] at ht; exact ht
        rw [decide_eq_true this]
  · simp (disch := omega) only [go_sem, Nat.reduceEqDiff, Nat.reduceAdd, Nat.reduceMul, Nat.reduceSub, Nat.reduceLeDiff, ↓reduceIte, reduceCtorEq, Int.reduceAdd, Int.reduceSub, Int.reduceMul, Int.reduceNeg, Int.reduceToNat, List.reduceReplicate, hl]
    refine DFin.refl ⟨?_, rfl⟩
    rw [decide_eq_false (fun e => hl (by rw [e]))]

theorem rnew_spec (G : Nat → DVal) (n : Int) (H : DHeap) : DCalls Try.prog G 20 [dI n] H (DRet (newD n) H) := by
  refine dcalls_intro Try.func20 Try.call20 rfl (by kernel_rfl) ?_
  by_cases c1 : n < 0
  · simp (disch := omega) only [go_sem, Nat.reduceEqDiff, Nat.reduceAdd, Nat.reduceMul, Nat.reduceSub, Nat.reduceLeDiff, ↓reduceIte, reduceCtorEq, Int.reduceAdd, Int.reduceSub, Int.reduceMul, Int.reduceNeg, Int.reduceToNat, List.reduceReplicate]
    exact DFin.refl ⟨by rw [newD, if_neg (by omega)], rfl⟩
  by_cases c2 : n > 8
  · simp (disch := omega) only [go_sem, Nat.reduceEqDiff, Nat.reduceAdd, Nat.reduceMul, Nat.reduceSub, Nat.reduceLeDiff, ↓reduceIte, reduceCtorEq, Int.reduceAdd, Int.reduceSub, Int.reduceMul, Int.reduceNeg, Int.reduceToNat, List.reduceReplicate]
    exact DFin.refl ⟨by rw [newD, if_neg (by omega)], rfl⟩
  · obtain ⟨m, rfl⟩ : ∃ m : Nat, n = m := ⟨n.toNat, by omega⟩
    simp (disch := omega) only [go_sem, Nat.reduceEqDiff, Nat.reduceAdd, Nat.reduceMul, Nat.reduceSub, Nat.reduceLeDiff, ↓reduceIte, reduceCtorEq, Int.reduceAdd, Int.reduceSub, Int.reduceMul, Int.reduceNeg, Int.reduceToNat, List.reduceReplicate]
    obtain ⟨I, hI⟩ : ∃ I : Nat → (Nat → DVal) → DHeap → Prop, ∀ i env heap, I i env heap ↔ (env 0 = dI m ∧ env 5 = dI i ∧ i ≤ m ∧ OwnA H 37 1 i (List.replicate i .nilSlice) (env 4) heap) := ⟨_, fun _ _ _ => Iff.rfl⟩
    refine DLoop.run I (fun i => m - i) 0 ((hI _ _ _).2 ?_) ?_
    · simp (disch := omega) only [go_sem, Nat.reduceEqDiff, Nat.reduceAdd, Nat.reduceMul, Nat.reduceSub, Nat.reduceLeDiff, ↓reduceIte, reduceCtorEq, Int.reduceAdd, Int.reduceSub, Int.reduceMul, Int.reduceNeg, Int.reduceToNat, List.reduceReplicate]
      (repeat' apply And.intro) <;> (try first | rfl | assumption | omega)
      exact .nil _ _ _
    · intro i env heap hi
      obtain ⟨h0, h5, hi, hv⟩ := (hI _ _ _).1 hi
      by_cases hlt : i < m
      · simp (disch := omega) only [go_sem, Nat.reduceEqDiff, Nat.reduceAdd, Nat.reduceMul, Nat.reduceSub, Nat.reduceLeDiff, ↓reduceIte, reduceCtorEq, Int.reduceAdd, Int.reduceSub, Int.reduceMul, Int.reduceNeg, Int.reduceToNat, List.reduceReplicate, h0, h5]
        intro r hr; dsimp only at hr
        simp (disch := omega) only [go_sem, Nat.reduceEqDiff, Nat.reduceAdd, Nat.reduceMul, Nat.reduceSub, Nat.reduceLeDiff, ↓reduceIte, reduceCtorEq, Int.reduceAdd, Int.reduceSub, Int.reduceMul, Int.reduceNeg, Int.reduceToNat, List.reduceReplicate]
        obtain ⟨hv', hr'⟩ := hv.frame hr (.cells [.nilSlice] 37)
        refine hv'.append (m := 1) rfl (by omega) fun v' H' h' => ?_
        simp (disch := omega) only [go_sem, Nat.reduceEqDiff, Nat.reduceAdd, Nat.reduceMul, Nat.reduceSub, Nat.reduceLeDiff, ↓reduceIte, reduceCtorEq, Int.reduceAdd, Int.reduceSub, Int.reduceMul, Int.reduceNeg, Int.reduceToNat, List.reduceReplicate, h0, h5]
        refine ⟨i + 1, _, GhostS.drop _ r, (hI _ _ _).2 ?_, by omega⟩
        simp (disch := omega) only [go_sem, Nat.reduceEqDiff, Nat.reduceAdd, Nat.reduceMul, Nat.reduceSub, Nat.reduceLeDiff, ↓reduceIte, reduceCtorEq, Int.reduceAdd, Int.reduceSub, Int.reduceMul, Int.reduceNeg, Int.reduceToNat, List.reduceReplicate, h0, h5]
        (repeat' apply And.intro) <;> (try first | rfl | assumption | omega)
        have := h'.unframe hr'
        rw [← List.replicate_succ'] at this
        exact this
      · simp (disch := omega) only [go_sem, Nat.reduceEqDiff, Nat.reduceAdd, Nat.reduceMul, Nat.reduceSub, Nat.reduceLeDiff, ↓reduceIte, reduceCtorEq, Int.reduceAdd, Int.reduceSub, Int.reduceMul, Int.reduceNeg, Int.reduceToNat, List.reduceReplicate, h0, h5]
        have : i = m := by omega
        subst this
        refine DFin.ghost (hv.ghostT (fun r cs => by simp [fzs, fz])) ?_
        refine DFin.le (DLe.tuple (.cons (DLe.vslice _ (DLes.nils _)) (.refl _))) (DFin.refl ⟨?_, rfl⟩)
        rw [newD, if_pos (by omega), dIss, List.map_replicate, List.length_replicate]
        rfl
end Go.Dl

-- The reference of chapter 31: place, May, Copy, Find, Counts.
namespace Go.Dl
open Go Go.Proofs
set_option maxRecDepth 10000

theorem pl1_eq (t e : Int) (l : List Int) : ∀ (i n en at' : Int), 0 ≤ n → pl1 t e l i (n, en, at') = (n + (l.count t : Nat), if n = 0 then (match l.findIdx? (· = t) with | some j => (e, i + (j : Int)) | none => (en, at')) else (en, at')) := by
  induction l with
  | nil => intro i n en at' hn; simp [pl1]
  | cons x xs ih =>
    intro i n en at' hn
    simp only [pl1]
    by_cases hx : x = t
    · rw [if_pos hx, ih _ _ _ _ (by omega), if_neg (by omega)]
      subst hx
      simp only [List.count_cons_self, List.findIdx?_cons, decide_true, if_true]
      simp; omega
    · rw [if_neg hx, ih _ _ _ _ hn]
      rw [List.count_cons_of_ne (by simpa using hx), List.findIdx?_cons]
      simp only [hx, decide_false]
      cases hf : xs.findIdx? (fun x => decide (x = t)) with
      | none => simp
      | some j =>
        simp only [Option.map_some]
        have : i + 1 + (j : Int) = i + ((j + 1 : Nat) : Int) := by omega
        rw [this]; simp

/-- Where a task is first. -/
def placeE (q : List (List Int)) (t : Int) : Int × Int := match findP q t with | some p => ((p.1 : Int), idx (q.getD p.1 []) t) | none => (0, 0)

theorem pl2_eq (t : Int) (q : List (List Int)) : ∀ (s : Nat) (n en at' : Int), 0 ≤ n → pl2 t q s (n, en, at') = (n + (q.flatten.count t : Nat), if n = 0 then (match (clp s q).find? (fun p => p.2 = t) with | some p => ((p.1 : Int), idx (q.getD (p.1 - s) []) t) | none => (en, at')) else (en, at')) := by
  induction q with
  | nil => intro s n en at' hn; simp [pl2, clp]
  | cons l q ih =>
    intro s n en at' hn
    simp only [pl2]
    rw [pl1_eq _ _ _ _ _ _ _ hn]
    have hc : ((s : Int) + 1) = ((s + 1 : Nat) : Int) := by omega
    rw [hc]
    generalize hz : (if n = 0 then (match l.findIdx? (· = t) with | some j => ((s : Int), 0 + (j : Int)) | none => (en, at')) else (en, at')) = z
    obtain ⟨z1, z2⟩ := z
    rw [ih (s + 1) _ _ _ (by omega)]
    simp only [List.flatten_cons, List.count_append, clp, List.find?_append]
    by_cases hn0 : n = 0
    · subst hn0
      by_cases hm : t ∈ l
      · have h1 : l.count t ≠ 0 := by rw [Ne, List.count_eq_zero]; exact fun h => h hm
        have h2 : (l.map (fun t => (s, t))).find? (fun p => p.2 = t) = some (s, t) := by
          rw [List.find?_map]
          simp only [Function.comp_def]
          obtain ⟨y, hy⟩ := Option.isSome_iff_exists.1 (show (l.find? (fun x => decide (x = t))).isSome from by rw [List.find?_isSome]; exact ⟨t, hm, by simp⟩)
          rw [hy]
          have := List.find?_some hy
          simp at this; subst this; rfl
        rw [if_neg (by omega), h2]
        simp only [Option.some_or, Nat.sub_self, List.getD_cons_zero, if_true]
        rw [if_pos rfl] at hz
        unfold idx
        cases hf : l.findIdx? (fun x => decide (x = t)) with
        | none => exact absurd (List.findIdx?_eq_none_iff.1 hf t hm) (by simp)
        | some j =>
          rw [hf] at hz; simp at hz
          obtain ⟨rfl, rfl⟩ := hz
          simp
      · have h1 : l.count t = 0 := List.count_eq_zero.2 hm
        have h2 : (l.map (fun t => (s, t))).find? (fun p => p.2 = t) = none := by
          rw [List.find?_eq_none]
          intro p hp
          simp only [List.mem_map] at hp
          obtain ⟨u, hu, rfl⟩ := hp
          simp; intro e; subst e; exact hm hu
        have h3 : l.findIdx? (fun x => decide (x = t)) = none := by
          rw [List.findIdx?_eq_none_iff]; intro x hx; simp; intro e; subst e; exact hm hx
        rw [if_pos rfl, h3] at hz
        simp at hz
        obtain ⟨rfl, rfl⟩ := hz
        rw [h1, if_pos (by simp), h2]
        simp only [Option.none_or, if_true]
        cases hf : (clp (s + 1) q).find? (fun p => decide (p.2 = t)) with
        | none => simp
        | some p =>
          obtain ⟨_, h4, _⟩ := clp_mem (List.mem_of_find?_eq_some hf)
          have h5 : p.1 - s = (p.1 - (s + 1)) + 1 := by omega
          have h6 : (l :: q).getD (p.1 - s) [] = q.getD (p.1 - (s + 1)) [] := by rw [h5]; simp
          simp only [h6]
          simp
    · rw [if_neg hn0] at hz
      cases hz
      rw [if_neg (by omega), if_neg hn0]
      simp; omega

theorem place_spec' (G : Nat → DVal) (q : List (List Int)) (t : Int) (H : DHeap) (hq : q.length ≤ 1099511627776) (hb : q.flatten.length ≤ 1099511627776) (hl : ∀ l ∈ q, l.length ≤ 1099511627776) :
    DCalls Try.prog G 65 [dIss q, dI t] H (DRet (.tuple [dI (q.flatten.count t : Nat), dI (placeE q t).1, dI (placeE q t).2]) H) := by
  have h := place_spec G q t H hq (by simpa [tot] using hb) hl
  have e : pl2 t q 0 (0, 0, 0) = (((q.flatten.count t : Nat) : Int), placeE q t) := by
    have := pl2_eq t q 0 0 0 0 (by omega)
    rw [if_pos rfl] at this
    simp only [Int.zero_add, Nat.sub_zero, Int.natCast_zero] at this
    rw [this]; rfl
  rw [e] at h
  exact h

/-- How many of l lie below m. -/
def cntTo (l : List Int) (m : Nat) : Nat := l.countP (fun x => decide (0 ≤ x ∧ x < (m : Int)))
theorem cntTo_succ (l : List Int) (m : Nat) : cntTo l (m + 1) = cntTo l m + l.count (m : Int) := by
  induction l with
  | nil => simp [cntTo]
  | cons x xs ih =>
    simp only [cntTo, List.countP_cons, List.count_cons] at ih ⊢
    rw [ih]
    by_cases h1 : x = (m : Int)
    · subst h1
      have e1 : decide ((0 : Int) ≤ (m : Int) ∧ (m : Int) < ((m + 1 : Nat) : Int)) = true := by simp; omega
      have e2 : decide ((0 : Int) ≤ (m : Int) ∧ (m : Int) < ((m : Nat) : Int)) = false := by simp
      rw [e1, e2]; simp; omega
    · have h2 : (x == (m : Int)) = false := by simpa using h1
      rw [h2]
      have e1 : decide ((0 : Int) ≤ x ∧ x < ((m + 1 : Nat) : Int)) = decide ((0 : Int) ≤ x ∧ x < ((m : Nat) : Int)) := by
        apply decide_eq_decide.2; omega
      rw [e1]; simp; omega

theorem mayQ_iff (q : List (List Int)) : mayQ q = true ↔ q.length ≤ 8 ∧ cntTo q.flatten 32 = q.flatten.length ∧ ∀ i : Nat, i < 32 → q.flatten.count (i : Int) ≤ 1 := by
  simp only [mayQ, Bool.and_eq_true, decide_eq_true_eq, List.all_eq_true, cntTo, List.countP_eq_length, List.nodup_iff_count]
  constructor
  · rintro ⟨⟨h1, h2⟩, h3⟩
    exact ⟨h1, fun x hx => by simpa using h2 x hx, fun i _ => h3 i⟩
  · rintro ⟨h1, h2, h3⟩
    refine ⟨⟨h1, fun x hx => by simpa using h2 x hx⟩, fun x => ?_⟩
    by_cases hx : x ∈ q.flatten
    · have := h2 x hx
      obtain ⟨i, rfl⟩ : ∃ i : Nat, x = i := ⟨x.toNat, by omega⟩
      exact h3 i (by omega)
    · rw [List.count_eq_zero.2 hx]; omega

theorem rmay_spec (G : Nat → DVal) (q : List (List Int)) (H : DHeap) (hq : q.length ≤ 1099511627776) (hb : q.flatten.length ≤ 1099511627776) (hl : ∀ l ∈ q, l.length ≤ 1099511627776) : DCalls Try.prog G 28 [dIss q] H (DRet (.bool (mayQ q)) H) := by
  refine dcalls_intro Try.func28 Try.call28 rfl (by kernel_rfl) ?_
  simp (disch := omega) only [go_sem, Nat.reduceEqDiff, Nat.reduceAdd, Nat.reduceMul, Nat.reduceSub, Nat.reduceLeDiff, ↓reduceIte, reduceCtorEq, Int.reduceAdd, Int.reduceSub, Int.reduceMul, Int.reduceNeg, Int.reduceToNat, List.reduceReplicate]
  obtain ⟨I, hI⟩ : ∃ I : Nat → (Nat → DVal) → DHeap → Prop, ∀ k env heap, I k env heap ↔ (H = heap ∧ env 0 = dIss q ∧ env 3 = dI (cntTo q.flatten k) ∧ env 4 = dI k ∧ k ≤ 32 ∧ ∀ i : Nat, i < k → q.flatten.count (i : Int) ≤ 1) := ⟨_, fun _ _ _ => Iff.rfl⟩
  refine DLoop.run I (fun k => 32 - k) 0 ((hI _ _ _).2 ?_) ?_
  · simp (disch := omega) only [go_sem, Nat.reduceEqDiff, Nat.reduceAdd, Nat.reduceMul, Nat.reduceSub, Nat.reduceLeDiff, ↓reduceIte, reduceCtorEq, Int.reduceAdd, Int.reduceSub, Int.reduceMul, Int.reduceNeg, Int.reduceToNat, List.reduceReplicate]
    (repeat' apply And.intro) <;> (try first | rfl | assumption | omega)
    have : cntTo q.flatten 0 = 0 := by unfold cntTo; rw [List.countP_eq_zero]; intro x _; simp
    rw [this]; rfl
  · intro k env heap hk
    obtain ⟨rfl, h0, h3, h4, hk, hn⟩ := (hI _ _ _).1 hk
    have hcb : cntTo q.flatten k ≤ 1099511627776 := Nat.le_trans List.countP_le_length hb
    by_cases hlt : k < 32
    · have hcc : q.flatten.count (k : Int) ≤ 1099511627776 := Nat.le_trans List.count_le_length hb
      simp (disch := omega) only [go_sem, Nat.reduceEqDiff, Nat.reduceAdd, Nat.reduceMul, Nat.reduceSub, Nat.reduceLeDiff, ↓reduceIte, reduceCtorEq, Int.reduceAdd, Int.reduceSub, Int.reduceMul, Int.reduceNeg, Int.reduceToNat, List.reduceReplicate, h0, h3, h4]
      refine (place_spec' G q k _ hq hb hl).mono ?_
      rintro _ _ ⟨rfl, rfl⟩
      by_cases hc : q.flatten.count (k : Int) ≤ 1
      · simp (disch := omega) only [go_sem, Nat.reduceEqDiff, Nat.reduceAdd, Nat.reduceMul, Nat.reduceSub, Nat.reduceLeDiff, ↓reduceIte, reduceCtorEq, Int.reduceAdd, Int.reduceSub, Int.reduceMul, Int.reduceNeg, Int.reduceToNat, List.reduceReplicate, h0, h3, h4]
        refine ⟨k + 1, _, GhostS.refl _, (hI _ _ _).2 ?_, by omega⟩
        simp (disch := omega) only [go_sem, Nat.reduceEqDiff, Nat.reduceAdd, Nat.reduceMul, Nat.reduceSub, Nat.reduceLeDiff, ↓reduceIte, reduceCtorEq, Int.reduceAdd, Int.reduceSub, Int.reduceMul, Int.reduceNeg, Int.reduceToNat, List.reduceReplicate, h0, h3, h4]
        (repeat' apply And.intro) <;> (try first | rfl | assumption | omega)
        · rw [cntTo_succ]; simp
        · intro i hi
          by_cases e : i = k
          · subst e; exact hc
          · exact hn i (by omega)
      · simp (disch := omega) only [go_sem, Nat.reduceEqDiff, Nat.reduceAdd, Nat.reduceMul, Nat.reduceSub, Nat.reduceLeDiff, ↓reduceIte, reduceCtorEq, Int.reduceAdd, Int.reduceSub, Int.reduceMul, Int.reduceNeg, Int.reduceToNat, List.reduceReplicate, h0, h3, h4]
        refine DFin.refl ⟨?_, rfl⟩
        have : mayQ q = false := by
          rw [← Bool.not_eq_true, mayQ_iff]
          exact fun h => hc (h.2.2 k hlt)
        rw [this]
    · have hk32 : k = 32 := by omega
      subst hk32
      simp (disch := omega) only [go_sem, Nat.reduceEqDiff, Nat.reduceAdd, Nat.reduceMul, Nat.reduceSub, Nat.reduceLeDiff, ↓reduceIte, reduceCtorEq, Int.reduceAdd, Int.reduceSub, Int.reduceMul, Int.reduceNeg, Int.reduceToNat, List.reduceReplicate, h0, h3, h4]
      obtain ⟨J, hJ⟩ : ∃ J : Nat → (Nat → DVal) → DHeap → Prop, ∀ i env heap, J i env heap ↔ (H = heap ∧ env 0 = dIss q ∧ env 3 = dI (cntTo q.flatten 32) ∧ env 9 = dI i ∧ env 8 = dI (q.take i).flatten.length ∧ i ≤ q.length) := ⟨_, fun _ _ _ => Iff.rfl⟩
      refine DLoop.run J (fun i => q.length - i) 0 ((hJ _ _ _).2 ?_) ?_
      · simp (disch := omega) only [go_sem, Nat.reduceEqDiff, Nat.reduceAdd, Nat.reduceMul, Nat.reduceSub, Nat.reduceLeDiff, ↓reduceIte, reduceCtorEq, Int.reduceAdd, Int.reduceSub, Int.reduceMul, Int.reduceNeg, Int.reduceToNat, List.reduceReplicate, h0, h3]
        (repeat' apply And.intro) <;> (try first | rfl | assumption | omega)
      · intro i env heap hi
        obtain ⟨rfl, h0, h3, h9, h8, hi⟩ := (hJ _ _ _).1 hi
        by_cases hlt : i < q.length
        · have h1 := flat_take q i hlt
          have h2 := flat_take_le q (i + 1)
          rw [h1, List.length_append] at h2
          simp (disch := omega) only [go_sem, Nat.reduceEqDiff, Nat.reduceAdd, Nat.reduceMul, Nat.reduceSub, Nat.reduceLeDiff, ↓reduceIte, reduceCtorEq, Int.reduceAdd, Int.reduceSub, Int.reduceMul, Int.reduceNeg, Int.reduceToNat, List.reduceReplicate, h0, h3, h8, h9]
          refine ⟨i + 1, _, GhostS.refl _, (hJ _ _ _).2 ?_, by omega⟩
          simp (disch := omega) only [go_sem, Nat.reduceEqDiff, Nat.reduceAdd, Nat.reduceMul, Nat.reduceSub, Nat.reduceLeDiff, ↓reduceIte, reduceCtorEq, Int.reduceAdd, Int.reduceSub, Int.reduceMul, Int.reduceNeg, Int.reduceToNat, List.reduceReplicate, h0, h3, h8, h9]
          (repeat' apply And.intro) <;> (try first | rfl | assumption | omega)
          rw [h1, List.length_append, Int.natCast_add]
        · have hiq : i = q.length := by omega
          subst hiq
          rw [List.take_length] at h8
          have key : mayQ q = (decide (q.length ≤ 8) && decide (cntTo q.flatten 32 = q.flatten.length)) := by
            rw [Bool.eq_iff_iff, mayQ_iff]
            simp only [Bool.and_eq_true, decide_eq_true_eq]
            exact ⟨fun h => ⟨h.1, h.2.1⟩, fun h => ⟨h.1, h.2, fun i hi => hn i hi⟩⟩
          by_cases h8' : q.length ≤ 8
          · simp (disch := omega) only [go_sem, Nat.reduceEqDiff, Nat.reduceAdd, Nat.reduceMul, Nat.reduceSub, Nat.reduceLeDiff, ↓reduceIte, reduceCtorEq, Int.reduceAdd, Int.reduceSub, Int.reduceMul, Int.reduceNeg, Int.reduceToNat, List.reduceReplicate, h0, h3, h8, h9]
            refine DFin.refl ⟨?_, rfl⟩
            rw [key, decide_eq_true h8', Bool.true_and]
            congr 3; apply propext; omega
          · simp (disch := omega) only [go_sem, Nat.reduceEqDiff, Nat.reduceAdd, Nat.reduceMul, Nat.reduceSub, Nat.reduceLeDiff, ↓reduceIte, reduceCtorEq, Int.reduceAdd, Int.reduceSub, Int.reduceMul, Int.reduceNeg, Int.reduceToNat, List.reduceReplicate, h0, h3, h8, h9]
            refine DFin.refl ⟨?_, rfl⟩
            rw [key, decide_eq_false h8', Bool.false_and]
end Go.Dl

-- The reference of chapter 31: Copy, Find, Put, Take, Remove.
namespace Go.Dl
open Go Go.Proofs
set_option maxRecDepth 10000

/-- Lists with one of them replaced, if there is one at that place. -/
def setI (q : List (List Int)) (e : Int) (l : List Int) : List (List Int) := if 0 ≤ e then q.set e.toNat l else q

theorem setI_len (q : List (List Int)) (e : Int) (l : List Int) : (setI q e l).length = q.length := by unfold setI; split <;> simp
theorem setI_take (q : List (List Int)) (e : Int) (l : List Int) (k : Nat) (h : k < q.length) : (setI q e l).take (k + 1) = (setI q e l).take k ++ [if (k : Int) = e then l else q[k]] := by
  have hl := setI_len q e l
  have hg : (setI q e l)[k]? = some (if (k : Int) = e then l else q[k]) := by
    unfold setI
    split
    · rename_i h0
      rw [List.getElem?_set]
      by_cases he : (k : Int) = e
      · rw [if_pos (by omega), if_pos he, if_pos (by omega)]
      · rw [if_neg (by omega), if_neg he, List.getElem?_eq_getElem h]
    · rw [if_neg (by omega), List.getElem?_eq_getElem h]
  rw [List.take_add_one, hg]; rfl

theorem copy_own (G : Nat → DVal) (q : List (List Int)) (e : Int) (l : List Int) (H : DHeap) (hq : q.length ≤ 1099511627776) (hl : ∀ l ∈ q, l.length ≤ 1099511627776) :
    DCalls Try.prog G 38 [dIss q, dI e, dIs l] H fun x H' => ∃ v, x = .ret v ∧ OwnA H 37 1 q.length ((setI q e l).map dIs) v H' := by
  refine dcalls_intro Try.func38 Try.call38 rfl (by kernel_rfl) ?_
  simp (disch := omega) only [go_sem, Nat.reduceEqDiff, Nat.reduceAdd, Nat.reduceMul, Nat.reduceSub, Nat.reduceLeDiff, ↓reduceIte, reduceCtorEq, Int.reduceAdd, Int.reduceSub, Int.reduceMul, Int.reduceNeg, Int.reduceToNat, List.reduceReplicate]
  obtain ⟨I, hI⟩ : ∃ I : Nat → (Nat → DVal) → DHeap → Prop, ∀ k env heap, I k env heap ↔ (env 0 = dIss q ∧ env 1 = dI e ∧ env 2 = dIs l ∧ env 8 = dI k ∧ k ≤ q.length ∧ OwnA H 37 1 k (((setI q e l).take k).map dIs) (env 7) heap) := ⟨_, fun _ _ _ => Iff.rfl⟩
  refine DLoop.run I (fun k => q.length - k) 0 ((hI _ _ _).2 ?_) ?_
  · simp (disch := omega) only [go_sem, Nat.reduceEqDiff, Nat.reduceAdd, Nat.reduceMul, Nat.reduceSub, Nat.reduceLeDiff, ↓reduceIte, reduceCtorEq, Int.reduceAdd, Int.reduceSub, Int.reduceMul, Int.reduceNeg, Int.reduceToNat, List.reduceReplicate]
    (repeat' apply And.intro) <;> (try first | rfl | assumption | omega)
    exact .nil _ _ _
  · intro k env heap hk
    obtain ⟨h0, h1, h2, h8, hk, hv⟩ := (hI _ _ _).1 hk
    by_cases hlt : k < q.length
    · have hst := setI_take q e l k hlt
      by_cases he : (k : Int) = e
      · rw [if_pos he] at hst
        simp (disch := omega) only [go_sem, Nat.reduceEqDiff, Nat.reduceAdd, Nat.reduceMul, Nat.reduceSub, Nat.reduceLeDiff, ↓reduceIte, reduceCtorEq, Int.reduceAdd, Int.reduceSub, Int.reduceMul, Int.reduceNeg, Int.reduceToNat, List.reduceReplicate, h0, h1, h2, h8, he]
        intro r hr; dsimp only at hr
        simp (disch := omega) only [go_sem, Nat.reduceEqDiff, Nat.reduceAdd, Nat.reduceMul, Nat.reduceSub, Nat.reduceLeDiff, ↓reduceIte, reduceCtorEq, Int.reduceAdd, Int.reduceSub, Int.reduceMul, Int.reduceNeg, Int.reduceToNat, List.reduceReplicate]
        obtain ⟨hv', hr'⟩ := hv.frame hr (.cells [dIs l] 37)
        refine hv'.append (m := 1) rfl (by omega) fun v' H' h' => ?_
        have he' : e + 1 = ((k + 1 : Nat) : Int) := by omega
        simp (disch := omega) only [go_sem, Nat.reduceEqDiff, Nat.reduceAdd, Nat.reduceMul, Nat.reduceSub, Nat.reduceLeDiff, ↓reduceIte, reduceCtorEq, Int.reduceAdd, Int.reduceSub, Int.reduceMul, Int.reduceNeg, Int.reduceToNat, List.reduceReplicate, h0, h1, h2, h8, he']
        refine ⟨k + 1, _, GhostS.drop _ r, (hI _ _ _).2 ?_, by omega⟩
        simp (disch := omega) only [go_sem, Nat.reduceEqDiff, Nat.reduceAdd, Nat.reduceMul, Nat.reduceSub, Nat.reduceLeDiff, ↓reduceIte, reduceCtorEq, Int.reduceAdd, Int.reduceSub, Int.reduceMul, Int.reduceNeg, Int.reduceToNat, List.reduceReplicate, h0, h1, h2, h8]
        (repeat' apply And.intro) <;> (try first | rfl | assumption | omega)
        have := h'.unframe hr'
        rw [hst, List.map_append]
        exact this
      · rw [if_neg he] at hst
        have hlk := hl _ (List.getElem_mem hlt)
        simp (disch := omega) only [go_sem, Nat.reduceEqDiff, Nat.reduceAdd, Nat.reduceMul, Nat.reduceSub, Nat.reduceLeDiff, ↓reduceIte, reduceCtorEq, Int.reduceAdd, Int.reduceSub, Int.reduceMul, Int.reduceNeg, Int.reduceToNat, List.reduceReplicate, h0, h1, h2, h8, he]
        intro ra hra; dsimp only at hra
        by_cases hz : q[k].length = 0
        · have hz' : q[k] = [] := List.length_eq_zero_iff.1 hz
          simp (disch := omega) only [go_sem, Nat.reduceEqDiff, Nat.reduceAdd, Nat.reduceMul, Nat.reduceSub, Nat.reduceLeDiff, ↓reduceIte, reduceCtorEq, Int.reduceAdd, Int.reduceSub, Int.reduceMul, Int.reduceNeg, Int.reduceToNat, List.reduceReplicate, h0, h1, h2, h8, hz']
          intro rc hrc; dsimp only at hrc
          simp (disch := omega) only [go_sem, Nat.reduceEqDiff, Nat.reduceAdd, Nat.reduceMul, Nat.reduceSub, Nat.reduceLeDiff, ↓reduceIte, reduceCtorEq, Int.reduceAdd, Int.reduceSub, Int.reduceMul, Int.reduceNeg, Int.reduceToNat, List.reduceReplicate]
          obtain ⟨hv1, hx⟩ := hv.frame hra (.cells [] 3)
          obtain ⟨hv2, hc⟩ := hv1.frame hrc (.cells [.oslice 1 ra 0 0 0] 37)
          rw [upd_eq_none] at hc
          refine hv2.append (m := 1) rfl (by omega) fun v' H' h' => ?_
          simp (disch := omega) only [go_sem, Nat.reduceEqDiff, Nat.reduceAdd, Nat.reduceMul, Nat.reduceSub, Nat.reduceLeDiff, ↓reduceIte, reduceCtorEq, Int.reduceAdd, Int.reduceSub, Int.reduceMul, Int.reduceNeg, Int.reduceToNat, List.reduceReplicate, h0, h1, h2, h8]
          obtain ⟨H'', hg, ho, hfz⟩ := h'.settle (G := G) hx hc.2.2 hc.1 (fzs_intss _ _ _) rfl
          refine ⟨k + 1, _, hg _, (hI _ _ _).2 ?_, by omega⟩
          simp (disch := omega) only [go_sem, Nat.reduceEqDiff, Nat.reduceAdd, Nat.reduceMul, Nat.reduceSub, Nat.reduceLeDiff, ↓reduceIte, reduceCtorEq, Int.reduceAdd, Int.reduceSub, Int.reduceMul, Int.reduceNeg, Int.reduceToNat, List.reduceReplicate, h0, h1, h2, h8, hfz]
          (repeat' apply And.intro) <;> (try first | rfl | assumption | omega)
          rw [hst, hz', List.map_append]
          exact ho
        · simp (disch := omega) only [go_sem, Nat.reduceEqDiff, Nat.reduceAdd, Nat.reduceMul, Nat.reduceSub, Nat.reduceLeDiff, ↓reduceIte, reduceCtorEq, Int.reduceAdd, Int.reduceSub, Int.reduceMul, Int.reduceNeg, Int.reduceToNat, List.reduceReplicate, h0, h1, h2, h8]
          intro r' hr'
          replace hr' : heap r' = none := by
            by_cases e : r' = ra
            · subst e; exact hra
            · simpa [e] using hr'
          rw [upd_self hra]
          intro rc hrc; dsimp only at hrc
          simp (disch := omega) only [go_sem, Nat.reduceEqDiff, Nat.reduceAdd, Nat.reduceMul, Nat.reduceSub, Nat.reduceLeDiff, ↓reduceIte, reduceCtorEq, Int.reduceAdd, Int.reduceSub, Int.reduceMul, Int.reduceNeg, Int.reduceToNat, List.reduceReplicate]
          obtain ⟨hv1, hx⟩ := hv.frame hr' (.cells (q[k].map dI) 3)
          obtain ⟨hv2, hc⟩ := hv1.frame hrc (.cells [.oslice 1 r' 0 q[k].length q[k].length] 37)
          rw [upd_eq_none] at hc
          refine hv2.append (m := 1) rfl (by omega) fun v' H' h' => ?_
          simp (disch := omega) only [go_sem, Nat.reduceEqDiff, Nat.reduceAdd, Nat.reduceMul, Nat.reduceSub, Nat.reduceLeDiff, ↓reduceIte, reduceCtorEq, Int.reduceAdd, Int.reduceSub, Int.reduceMul, Int.reduceNeg, Int.reduceToNat, List.reduceReplicate, h0, h1, h2, h8]
          obtain ⟨H'', hg, ho, hfz⟩ := h'.settle (G := G) hx hc.2.2 hc.1 (fzs_intss _ _ _) (by simp)
          refine ⟨k + 1, _, hg _, (hI _ _ _).2 ?_, by omega⟩
          simp (disch := omega) only [go_sem, Nat.reduceEqDiff, Nat.reduceAdd, Nat.reduceMul, Nat.reduceSub, Nat.reduceLeDiff, ↓reduceIte, reduceCtorEq, Int.reduceAdd, Int.reduceSub, Int.reduceMul, Int.reduceNeg, Int.reduceToNat, List.reduceReplicate, h0, h1, h2, h8, hfz]
          (repeat' apply And.intro) <;> (try first | rfl | assumption | omega)
          rw [hst, List.map_append]
          exact ho
    · simp (disch := omega) only [go_sem, Nat.reduceEqDiff, Nat.reduceAdd, Nat.reduceMul, Nat.reduceSub, Nat.reduceLeDiff, ↓reduceIte, reduceCtorEq, Int.reduceAdd, Int.reduceSub, Int.reduceMul, Int.reduceNeg, Int.reduceToNat, List.reduceReplicate, h0, h1, h2, h8]
      have hkq : k = q.length := by omega
      subst hkq
      refine DFin.refl ⟨_, rfl, ?_⟩
      have hl : (setI q e l).length = q.length := by unfold setI; split <;> simp
      rw [List.take_of_length_le (by omega)] at hv
      exact hv

theorem copy_spec (G : Nat → DVal) (q : List (List Int)) (e : Int) (l : List Int) (H : DHeap) (hq : q.length ≤ 1099511627776) (hl : ∀ l ∈ q, l.length ≤ 1099511627776) :
    DCalls Try.prog G 38 [dIss q, dI e, dIs l] H (DRet (dIss (setI q e l)) H) := by
  have h := (copy_own G q e l H hq hl).frozen
  rw [← setI_len q e l] at h
  exact h

theorem rfind_spec (G : Nat → DVal) (q : List (List Int)) (t : Int) (H : DHeap) (hq : q.length ≤ 1099511627776) (hb : q.flatten.length ≤ 1099511627776) (hl : ∀ l ∈ q, l.length ≤ 1099511627776) : DCalls Try.prog G 22 [dIss q, dI t] H (DRet (findD q t) H) := by
  refine dcalls_intro Try.func22 Try.call22 rfl (by kernel_rfl) ?_
  simp (disch := omega) only [go_sem, Nat.reduceEqDiff, Nat.reduceAdd, Nat.reduceMul, Nat.reduceSub, Nat.reduceLeDiff, ↓reduceIte, reduceCtorEq, Int.reduceAdd, Int.reduceSub, Int.reduceMul, Int.reduceNeg, Int.reduceToNat, List.reduceReplicate]
  refine (place_spec' G q t _ hq hb hl).mono ?_
  rintro _ _ ⟨rfl, rfl⟩
  simp (disch := omega) only [go_sem, Nat.reduceEqDiff, Nat.reduceAdd, Nat.reduceMul, Nat.reduceSub, Nat.reduceLeDiff, ↓reduceIte, reduceCtorEq, Int.reduceAdd, Int.reduceSub, Int.reduceMul, Int.reduceNeg, Int.reduceToNat, List.reduceReplicate]
  refine (rmay_spec G q _ hq hb hl).mono ?_
  rintro _ _ ⟨rfl, rfl⟩
  have hc : findP q t = none ↔ q.flatten.count t = 0 := by
    rw [List.count_eq_zero, findP, List.find?_eq_none, ← clp_snd 0]
    simp only [List.mem_map, decide_eq_true_eq]
    exact ⟨fun h ⟨p, hp, e⟩ => h p hp e, fun h p hp e => h ⟨p, hp, e⟩⟩
  cases hm : mayQ q with
  | false =>
    simp (disch := omega) only [go_sem, Nat.reduceEqDiff, Nat.reduceAdd, Nat.reduceMul, Nat.reduceSub, Nat.reduceLeDiff, ↓reduceIte, reduceCtorEq, Int.reduceAdd, Int.reduceSub, Int.reduceMul, Int.reduceNeg, Int.reduceToNat, List.reduceReplicate]
    exact DFin.refl ⟨by simp [findD, hm], rfl⟩
  | true =>
    cases hf : findP q t with
    | none =>
      have h0 := hc.1 hf
      simp (disch := omega) only [go_sem, Nat.reduceEqDiff, Nat.reduceAdd, Nat.reduceMul, Nat.reduceSub, Nat.reduceLeDiff, ↓reduceIte, reduceCtorEq, Int.reduceAdd, Int.reduceSub, Int.reduceMul, Int.reduceNeg, Int.reduceToNat, List.reduceReplicate, h0]
      exact DFin.refl ⟨by simp [findD, hm, hf], rfl⟩
    | some p =>
      have h0 : ¬ ((q.flatten.count t : Nat) : Int) = 0 := fun e => by rw [hc.2 (by omega)] at hf; cases hf
      simp (disch := omega) only [go_sem, Nat.reduceEqDiff, Nat.reduceAdd, Nat.reduceMul, Nat.reduceSub, Nat.reduceLeDiff, ↓reduceIte, reduceCtorEq, Int.reduceAdd, Int.reduceSub, Int.reduceMul, Int.reduceNeg, Int.reduceToNat, List.reduceReplicate, h0]
      exact DFin.refl ⟨by simp [findD, hm, hf, placeE], rfl⟩

/-- A sum that counts the callers of each entry. -/
theorem rcounts_spec (G : Nat → DVal) (q : List (List Int)) (H : DHeap) (hq : q.length ≤ 1099511627776) (hb : q.flatten.length ≤ 1099511627776) (hl : ∀ l ∈ q, l.length ≤ 1099511627776) : DCalls Try.prog G 31 [dIss q] H (DRet (dIs (cntL q)) H) := by
  refine dcalls_intro Try.func31 Try.call31 rfl (by kernel_rfl) ?_
  simp (disch := omega) only [go_sem, Nat.reduceEqDiff, Nat.reduceAdd, Nat.reduceMul, Nat.reduceSub, Nat.reduceLeDiff, ↓reduceIte, reduceCtorEq, Int.reduceAdd, Int.reduceSub, Int.reduceMul, Int.reduceNeg, Int.reduceToNat, List.reduceReplicate]
  refine (rmay_spec G q _ hq hb hl).mono ?_
  rintro _ H ⟨rfl, rfl⟩
  cases hm : mayQ q with
  | false =>
    simp (disch := omega) only [go_sem, Nat.reduceEqDiff, Nat.reduceAdd, Nat.reduceMul, Nat.reduceSub, Nat.reduceLeDiff, ↓reduceIte, reduceCtorEq, Int.reduceAdd, Int.reduceSub, Int.reduceMul, Int.reduceNeg, Int.reduceToNat, List.reduceReplicate]
    exact DFin.le .nilIs (DFin.refl ⟨by simp [cntL, hm, dIs], rfl⟩)
  | true =>
    simp (disch := omega) only [go_sem, Nat.reduceEqDiff, Nat.reduceAdd, Nat.reduceMul, Nat.reduceSub, Nat.reduceLeDiff, ↓reduceIte, reduceCtorEq, Int.reduceAdd, Int.reduceSub, Int.reduceMul, Int.reduceNeg, Int.reduceToNat, List.reduceReplicate]
    obtain ⟨I, hI⟩ : ∃ I : Nat → (Nat → DVal) → DHeap → Prop, ∀ k env heap, I k env heap ↔ (env 0 = dIss q ∧ env 4 = dI k ∧ k ≤ q.length ∧ OwnA H 3 1 k (((q.take k).map fun l => (l.length : Int)).map dI) (env 3) heap) := ⟨_, fun _ _ _ => Iff.rfl⟩
    refine DLoop.run I (fun k => q.length - k) 0 ((hI _ _ _).2 ?_) ?_
    · simp (disch := omega) only [go_sem, Nat.reduceEqDiff, Nat.reduceAdd, Nat.reduceMul, Nat.reduceSub, Nat.reduceLeDiff, ↓reduceIte, reduceCtorEq, Int.reduceAdd, Int.reduceSub, Int.reduceMul, Int.reduceNeg, Int.reduceToNat, List.reduceReplicate]
      (repeat' apply And.intro) <;> (try first | rfl | assumption | omega)
      exact .nil _ _ _
    · intro k env heap hk
      obtain ⟨h0, h4, hk, hv⟩ := (hI _ _ _).1 hk
      by_cases hlt : k < q.length
      · simp (disch := omega) only [go_sem, Nat.reduceEqDiff, Nat.reduceAdd, Nat.reduceMul, Nat.reduceSub, Nat.reduceLeDiff, ↓reduceIte, reduceCtorEq, Int.reduceAdd, Int.reduceSub, Int.reduceMul, Int.reduceNeg, Int.reduceToNat, List.reduceReplicate, h0, h4]
        intro r hr; dsimp only at hr
        simp (disch := omega) only [go_sem, Nat.reduceEqDiff, Nat.reduceAdd, Nat.reduceMul, Nat.reduceSub, Nat.reduceLeDiff, ↓reduceIte, reduceCtorEq, Int.reduceAdd, Int.reduceSub, Int.reduceMul, Int.reduceNeg, Int.reduceToNat, List.reduceReplicate]
        obtain ⟨hv', hr'⟩ := hv.frame hr (.cells [dI q[k].length] 3)
        refine hv'.append (m := 1) rfl (by omega) fun v' H' h' => ?_
        simp (disch := omega) only [go_sem, Nat.reduceEqDiff, Nat.reduceAdd, Nat.reduceMul, Nat.reduceSub, Nat.reduceLeDiff, ↓reduceIte, reduceCtorEq, Int.reduceAdd, Int.reduceSub, Int.reduceMul, Int.reduceNeg, Int.reduceToNat, List.reduceReplicate, h0, h4]
        refine ⟨k + 1, _, GhostS.drop _ r, (hI _ _ _).2 ?_, by omega⟩
        simp (disch := omega) only [go_sem, Nat.reduceEqDiff, Nat.reduceAdd, Nat.reduceMul, Nat.reduceSub, Nat.reduceLeDiff, ↓reduceIte, reduceCtorEq, Int.reduceAdd, Int.reduceSub, Int.reduceMul, Int.reduceNeg, Int.reduceToNat, List.reduceReplicate, h0, h4]
        (repeat' apply And.intro) <;> (try first | rfl | assumption | omega)
        have := h'.unframe hr'
        rw [List.take_add_one, List.getElem?_eq_getElem hlt, List.map_append, List.map_append]
        exact this
      · simp (disch := omega) only [go_sem, Nat.reduceEqDiff, Nat.reduceAdd, Nat.reduceMul, Nat.reduceSub, Nat.reduceLeDiff, ↓reduceIte, reduceCtorEq, Int.reduceAdd, Int.reduceSub, Int.reduceMul, Int.reduceNeg, Int.reduceToNat, List.reduceReplicate, h0, h4]
        have hkq : k = q.length := by omega
        subst hkq
        rw [List.take_length] at hv
        refine hv.fin ⟨?_, rfl⟩
        simp [cntL, hm, dIs]
end Go.Dl

-- The reference of chapter 31: Put, Take, Remove, Choose, Open.
namespace Go.Dl
open Go Go.Proofs
set_option maxRecDepth 10000

theorem findP_none {q : List (List Int)} {t : Int} : findP q t = none ↔ q.flatten.count t = 0 := by
  rw [List.count_eq_zero, findP, List.find?_eq_none, ← clp_snd 0]
  simp only [List.mem_map, decide_eq_true_eq]
  exact ⟨fun h ⟨p, hp, e⟩ => h p hp e, fun h p hp e => h ⟨p, hp, e⟩⟩

theorem rput_spec (G : Nat → DVal) (q : List (List Int)) (e t : Int) (H : DHeap) (hq : q.length ≤ 1099511627776) (hb : q.flatten.length ≤ 1099511627776) (hl : ∀ l ∈ q, l.length ≤ 1000000000) : DCalls Try.prog G 12 [dIss q, dI e, dI t] H (DRet (.tuple [dIss (putL q e t).1, dI (putL q e t).2]) H) := by
  have hl' : ∀ l ∈ q, l.length ≤ 1099511627776 := fun l h => Nat.le_trans (hl l h) (by omega)
  refine dcalls_intro Try.func12 Try.call12 rfl (by kernel_rfl) ?_
  simp (disch := omega) only [go_sem, Nat.reduceEqDiff, Nat.reduceAdd, Nat.reduceMul, Nat.reduceSub, Nat.reduceLeDiff, ↓reduceIte, reduceCtorEq, Int.reduceAdd, Int.reduceSub, Int.reduceMul, Int.reduceNeg, Int.reduceToNat, List.reduceReplicate]
  refine (rmay_spec G q _ hq hb hl').mono ?_
  rintro _ H ⟨rfl, rfl⟩
  cases hm : mayQ q with
  | false =>
    simp (disch := omega) only [go_sem, Nat.reduceEqDiff, Nat.reduceAdd, Nat.reduceMul, Nat.reduceSub, Nat.reduceLeDiff, ↓reduceIte, reduceCtorEq, Int.reduceAdd, Int.reduceSub, Int.reduceMul, Int.reduceNeg, Int.reduceToNat, List.reduceReplicate]
    refine DFin.le (DLe.tuple (.cons .nilIss (.refl _))) (DFin.refl ⟨?_, rfl⟩)
    simp [putL, chk, hm, dIss]
  | true =>
    have bad : ¬ (0 ≤ e ∧ e < q.length ∧ 0 ≤ t ∧ t < 32) → putL q e t = ([], 4) := fun h => by simp only [putL, chk, hm, if_true]; rw [if_neg h]; simp
    have ne : ∀ {x}, DEnd.ret (.tuple [DVal.vslice [] 0, dI x]) = DEnd.ret (.tuple [dIss [], dI x]) := rfl
    by_cases c1 : e < 0
    · simp (disch := omega) only [go_sem, Nat.reduceEqDiff, Nat.reduceAdd, Nat.reduceMul, Nat.reduceSub, Nat.reduceLeDiff, ↓reduceIte, reduceCtorEq, Int.reduceAdd, Int.reduceSub, Int.reduceMul, Int.reduceNeg, Int.reduceToNat, List.reduceReplicate]
      refine DFin.le (DLe.tuple (.cons .nilIss (.refl _))) (DFin.refl ⟨?_, rfl⟩)
      rw [bad (by omega)]; rfl
    by_cases c2 : (q.length : Int) ≤ e
    · simp (disch := omega) only [go_sem, Nat.reduceEqDiff, Nat.reduceAdd, Nat.reduceMul, Nat.reduceSub, Nat.reduceLeDiff, ↓reduceIte, reduceCtorEq, Int.reduceAdd, Int.reduceSub, Int.reduceMul, Int.reduceNeg, Int.reduceToNat, List.reduceReplicate]
      refine DFin.le (DLe.tuple (.cons .nilIss (.refl _))) (DFin.refl ⟨?_, rfl⟩)
      rw [bad (by omega)]; rfl
    simp (disch := omega) only [go_sem, Nat.reduceEqDiff, Nat.reduceAdd, Nat.reduceMul, Nat.reduceSub, Nat.reduceLeDiff, ↓reduceIte, reduceCtorEq, Int.reduceAdd, Int.reduceSub, Int.reduceMul, Int.reduceNeg, Int.reduceToNat, List.reduceReplicate]
    refine (task_spec G t _).mono ?_
    rintro _ _ ⟨rfl, rfl⟩
    by_cases c3 : 0 ≤ t ∧ t < 32
    · simp (disch := omega) only [go_sem, Nat.reduceEqDiff, Nat.reduceAdd, Nat.reduceMul, Nat.reduceSub, Nat.reduceLeDiff, ↓reduceIte, reduceCtorEq, Int.reduceAdd, Int.reduceSub, Int.reduceMul, Int.reduceNeg, Int.reduceToNat, List.reduceReplicate, c3]
      refine (place_spec' G q t _ hq hb hl').mono ?_
      rintro _ H ⟨rfl, rfl⟩
      have hc : chk q e t = 0 := by simp only [chk, hm, if_true]; rw [if_pos (by omega)]
      obtain ⟨n, rfl⟩ : ∃ n : Nat, e = n := ⟨e.toNat, by omega⟩
      have hn : n < q.length := by omega
      have hln := hl q[n] (List.getElem_mem hn)
      by_cases h0 : q.flatten.count t = 0
      · have hf := findP_none.2 h0
        simp (disch := omega) only [go_sem, Nat.reduceEqDiff, Nat.reduceAdd, Nat.reduceMul, Nat.reduceSub, Nat.reduceLeDiff, ↓reduceIte, reduceCtorEq, Int.reduceAdd, Int.reduceSub, Int.reduceMul, Int.reduceNeg, Int.reduceToNat, List.reduceReplicate, h0]
        intro ra hra; dsimp only at hra
        have hset : DEnd.ret (.tuple [dIss (setI q n (q[n] ++ [t])), dI 0]) = DEnd.ret (.tuple [dIss (putL q n t).1, dI (putL q n t).2]) := by
          simp [putL, hc, hf, hn, setI]
        have key : ∀ (rx : Nat) (K0 : DHeap), True := fun _ _ => trivial
        by_cases hz : q[n].length = 0
        · have hz' : q[n] = [] := List.length_eq_zero_iff.1 hz
          simp (disch := omega) only [go_sem, Nat.reduceEqDiff, Nat.reduceAdd, Nat.reduceMul, Nat.reduceSub, Nat.reduceLeDiff, ↓reduceIte, reduceCtorEq, Int.reduceAdd, Int.reduceSub, Int.reduceMul, Int.reduceNeg, Int.reduceToNat, List.reduceReplicate, hz']
          intro rc hrc; dsimp only at hrc
          simp only [upd_eq_none] at hrc
          simp (disch := omega) only [go_sem, Nat.reduceEqDiff, Nat.reduceAdd, Nat.reduceMul, Nat.reduceSub, Nat.reduceLeDiff, ↓reduceIte, reduceCtorEq, Int.reduceAdd, Int.reduceSub, Int.reduceMul, Int.reduceNeg, Int.reduceToNat, List.reduceReplicate, hrc]
          intro r2 hr2
          refine DCalls.fzArgs r2 (upd_same _ _ _) ?_
          simp (disch := omega) only [go_sem, Nat.reduceEqDiff, Nat.reduceAdd, Nat.reduceMul, Nat.reduceSub, Nat.reduceLeDiff, ↓reduceIte, reduceCtorEq, Int.reduceAdd, Int.reduceSub, Int.reduceMul, Int.reduceNeg, Int.reduceToNat, List.reduceReplicate]
          refine (copy_spec G q n [t] _ hq hl').mono ?_
          rintro _ _ ⟨rfl, rfl⟩
          simp (disch := omega) only [go_sem, Nat.reduceEqDiff, Nat.reduceAdd, Nat.reduceMul, Nat.reduceSub, Nat.reduceLeDiff, ↓reduceIte, reduceCtorEq, Int.reduceAdd, Int.reduceSub, Int.reduceMul, Int.reduceNeg, Int.reduceToNat, List.reduceReplicate]
          rw [hz'] at hset
          refine DFin.sub (H' := H) (fun r o ho => ?_) (DFin.refl ⟨hset, rfl⟩)
          have e1 := none_ne hra ho
          have e2 := none_ne hrc.2.2 ho
          have e3 : r ≠ r2 := fun e => by subst e; simp [e1, e2, ho] at hr2
          simp [upd, e1, e2, e3, ho]
        · simp (disch := omega) only [go_sem, Nat.reduceEqDiff, Nat.reduceAdd, Nat.reduceMul, Nat.reduceSub, Nat.reduceLeDiff, ↓reduceIte, reduceCtorEq, Int.reduceAdd, Int.reduceSub, Int.reduceMul, Int.reduceNeg, Int.reduceToNat, List.reduceReplicate]
          intro r' hr'
          rw [upd_self hra] at *
          replace hr' : H r' = none := by
            by_cases e : r' = ra
            · subst e; exact hra
            · simpa [e] using hr'
          intro rc hrc; dsimp only at hrc
          simp only [upd_eq_none] at hrc
          simp (disch := omega) only [go_sem, Nat.reduceEqDiff, Nat.reduceAdd, Nat.reduceMul, Nat.reduceSub, Nat.reduceLeDiff, ↓reduceIte, reduceCtorEq, Int.reduceAdd, Int.reduceSub, Int.reduceMul, Int.reduceNeg, Int.reduceToNat, List.reduceReplicate, hrc]
          intro r2 hr2
          refine DCalls.fzArgs r2 (upd_same _ _ _) ?_
          have he : DVal.vslice ((q[n].map dI ++ [DVal.int .i64 t]).take (q[n].length + 1)) (q[n].length + 1) = dIs (q[n] ++ [t]) := by
            rw [List.take_of_length_le (by simp)]; simp [dIs]
          simp (disch := omega) only [go_sem, Nat.reduceEqDiff, Nat.reduceAdd, Nat.reduceMul, Nat.reduceSub, Nat.reduceLeDiff, ↓reduceIte, reduceCtorEq, Int.reduceAdd, Int.reduceSub, Int.reduceMul, Int.reduceNeg, Int.reduceToNat, List.reduceReplicate]
          rw [he]
          refine (copy_spec G q n (q[n] ++ [t]) _ hq hl').mono ?_
          rintro _ _ ⟨rfl, rfl⟩
          simp (disch := omega) only [go_sem, Nat.reduceEqDiff, Nat.reduceAdd, Nat.reduceMul, Nat.reduceSub, Nat.reduceLeDiff, ↓reduceIte, reduceCtorEq, Int.reduceAdd, Int.reduceSub, Int.reduceMul, Int.reduceNeg, Int.reduceToNat, List.reduceReplicate]
          refine DFin.sub (H' := H) (fun r o ho => ?_) (DFin.refl ⟨hset, rfl⟩)
          have e1 := none_ne hr' ho
          have e2 := none_ne hrc.2.2 ho
          have e3 : r ≠ r2 := fun e => by subst e; simp [e1, e2, ho] at hr2
          simp [upd, e1, e2, e3, ho]
      · have hf : (findP q t).isSome = true := by
          cases hf : findP q t with
          | none => exact absurd (findP_none.1 hf) h0
          | some p => rfl
        simp (disch := omega) only [go_sem, Nat.reduceEqDiff, Nat.reduceAdd, Nat.reduceMul, Nat.reduceSub, Nat.reduceLeDiff, ↓reduceIte, reduceCtorEq, Int.reduceAdd, Int.reduceSub, Int.reduceMul, Int.reduceNeg, Int.reduceToNat, List.reduceReplicate]
        refine DFin.le (DLe.tuple (.cons .nilIss (.refl _))) (DFin.refl ⟨?_, rfl⟩)
        simp [putL, hc, hf, dIss]
    · simp (disch := omega) only [go_sem, Nat.reduceEqDiff, Nat.reduceAdd, Nat.reduceMul, Nat.reduceSub, Nat.reduceLeDiff, ↓reduceIte, reduceCtorEq, Int.reduceAdd, Int.reduceSub, Int.reduceMul, Int.reduceNeg, Int.reduceToNat, List.reduceReplicate, c3]
      refine DFin.le (DLe.tuple (.cons .nilIss (.refl _))) (DFin.refl ⟨?_, rfl⟩)
      rw [bad (by omega)]; rfl

theorem rtake_spec (G : Nat → DVal) (q : List (List Int)) (e : Int) (H : DHeap) (hq : q.length ≤ 1099511627776) (hb : q.flatten.length ≤ 1099511627776) (hl : ∀ l ∈ q, l.length ≤ 1000000000) : DCalls Try.prog G 14 [dIss q, dI e] H (DRet (.tuple [dIss (takeL q e).1, dI (takeL q e).2.1, dI (takeL q e).2.2]) H) := by
  have hl' : ∀ l ∈ q, l.length ≤ 1099511627776 := fun l h => Nat.le_trans (hl l h) (by omega)
  refine dcalls_intro Try.func14 Try.call14 rfl (by kernel_rfl) ?_
  simp (disch := omega) only [go_sem, Nat.reduceEqDiff, Nat.reduceAdd, Nat.reduceMul, Nat.reduceSub, Nat.reduceLeDiff, ↓reduceIte, reduceCtorEq, Int.reduceAdd, Int.reduceSub, Int.reduceMul, Int.reduceNeg, Int.reduceToNat, List.reduceReplicate]
  refine (rmay_spec G q _ hq hb hl').mono ?_
  rintro _ H ⟨rfl, rfl⟩
  cases hm : mayQ q with
  | false =>
    simp (disch := omega) only [go_sem, Nat.reduceEqDiff, Nat.reduceAdd, Nat.reduceMul, Nat.reduceSub, Nat.reduceLeDiff, ↓reduceIte, reduceCtorEq, Int.reduceAdd, Int.reduceSub, Int.reduceMul, Int.reduceNeg, Int.reduceToNat, List.reduceReplicate]
    refine DFin.le (DLe.tuple (.cons .nilIss (.refl _))) (DFin.refl ⟨?_, rfl⟩)
    simp [takeL, chk, hm, dIss]
  | true =>
    have bad : ¬ (0 ≤ e ∧ e < q.length) → takeL q e = ([], 0, 4) := fun h => by
      have : chk q e 0 = 4 := by simp only [chk, hm, if_true]; rw [if_neg (fun k => h ⟨k.1, k.2.1⟩)]
      rw [takeL, if_pos (by rw [this]; simp), this]
    by_cases c1 : e < 0
    · simp (disch := omega) only [go_sem, Nat.reduceEqDiff, Nat.reduceAdd, Nat.reduceMul, Nat.reduceSub, Nat.reduceLeDiff, ↓reduceIte, reduceCtorEq, Int.reduceAdd, Int.reduceSub, Int.reduceMul, Int.reduceNeg, Int.reduceToNat, List.reduceReplicate]
      refine DFin.le (DLe.tuple (.cons .nilIss (.refl _))) (DFin.refl ⟨?_, rfl⟩)
      rw [bad (by omega)]; rfl
    by_cases c2 : (q.length : Int) ≤ e
    · simp (disch := omega) only [go_sem, Nat.reduceEqDiff, Nat.reduceAdd, Nat.reduceMul, Nat.reduceSub, Nat.reduceLeDiff, ↓reduceIte, reduceCtorEq, Int.reduceAdd, Int.reduceSub, Int.reduceMul, Int.reduceNeg, Int.reduceToNat, List.reduceReplicate]
      refine DFin.le (DLe.tuple (.cons .nilIss (.refl _))) (DFin.refl ⟨?_, rfl⟩)
      rw [bad (by omega)]; rfl
    have hc : chk q e 0 = 0 := by simp only [chk, hm, if_true]; rw [if_pos (by omega)]
    obtain ⟨n, rfl⟩ : ∃ n : Nat, e = n := ⟨e.toNat, by omega⟩
    have hn : n < q.length := by omega
    have hg : q.getD n [] = q[n] := by simp [hn]
    have hln := hl q[n] (List.getElem_mem hn)
    have htk : ∀ {x}, (match q[n] with | [] => (([], 0, 6) : List (List Int) × Int × Int) | t :: l => (q.set n l, t, 0)) = x → takeL q n = x := fun h => by
      rw [takeL, if_neg (by rw [hc]; simp), Int.toNat_natCast, hg]; exact h
    cases hq2 : q[n] with
    | nil =>
      simp (disch := omega) only [go_sem, Nat.reduceEqDiff, Nat.reduceAdd, Nat.reduceMul, Nat.reduceSub, Nat.reduceLeDiff, ↓reduceIte, reduceCtorEq, Int.reduceAdd, Int.reduceSub, Int.reduceMul, Int.reduceNeg, Int.reduceToNat, List.reduceReplicate, hq2]
      refine DFin.le (DLe.tuple (.cons .nilIss (.refl _))) (DFin.refl ⟨?_, rfl⟩)
      rw [htk (by rw [hq2])]; rfl
    | cons u l =>
      rw [hq2] at hln
      have htk := htk (x := (q.set n l, u, 0)) (by rw [hq2])
      simp only [List.length_cons] at hln
      have hset : setI q n l = q.set n l := by simp [setI]
      simp (disch := omega) only [go_sem, Nat.reduceEqDiff, Nat.reduceAdd, Nat.reduceMul, Nat.reduceSub, Nat.reduceLeDiff, ↓reduceIte, reduceCtorEq, Int.reduceAdd, Int.reduceSub, Int.reduceMul, Int.reduceNeg, Int.reduceToNat, List.reduceReplicate, hq2]
      refine dwp_draws (by kernel_rfl) (.take 0 (.take 1 (.take 3 (.take 4 (.take 5 (.take 6 (.take 7 (.take 10 (.take 11 (.take 12 (.take 13 (.take 14 (.take 15 (.go 2 [15, 13, 7, 6] (.go 8 [15, 13, 6] (.go 9 [15, 13, 7, 6] (.take 16 (.take 17 (.take 18 .done))))))))))))))))))) (by kernel_rfl) ?_
      simp (disch := omega) only [go_sem, Nat.reduceEqDiff, Nat.reduceAdd, Nat.reduceMul, Nat.reduceSub, Nat.reduceLeDiff, ↓reduceIte, reduceCtorEq, Int.reduceAdd, Int.reduceSub, Int.reduceMul, Int.reduceNeg, Int.reduceToNat, List.reduceReplicate, hq2, List.map_cons]
      intro ra hra; dsimp only at hra
      by_cases hz : l.length = 0
      · have hz' : l = [] := List.length_eq_zero_iff.1 hz
        simp (disch := omega) only [go_sem, Nat.reduceEqDiff, Nat.reduceAdd, Nat.reduceMul, Nat.reduceSub, Nat.reduceLeDiff, ↓reduceIte, reduceCtorEq, Int.reduceAdd, Int.reduceSub, Int.reduceMul, Int.reduceNeg, Int.reduceToNat, List.reduceReplicate, hz', hq2, List.map_nil]
        refine DCalls.fzArgs ra (upd_same _ _ _) ?_
        simp (disch := omega) only [go_sem, Nat.reduceEqDiff, Nat.reduceAdd, Nat.reduceMul, Nat.reduceSub, Nat.reduceLeDiff, ↓reduceIte, reduceCtorEq, Int.reduceAdd, Int.reduceSub, Int.reduceMul, Int.reduceNeg, Int.reduceToNat, List.reduceReplicate]
        refine (copy_spec G q n [] _ hq hl').mono ?_
        rintro _ _ ⟨rfl, rfl⟩
        simp (disch := omega) only [go_sem, Nat.reduceEqDiff, Nat.reduceAdd, Nat.reduceMul, Nat.reduceSub, Nat.reduceLeDiff, ↓reduceIte, reduceCtorEq, Int.reduceAdd, Int.reduceSub, Int.reduceMul, Int.reduceNeg, Int.reduceToNat, List.reduceReplicate, hq2, List.map_cons]
        refine DFin.sub (H' := H) (fun r o ho => ?_) (DFin.refl ⟨?_, rfl⟩)
        · simp [upd, none_ne hra ho, ho]
        · rw [htk, ← hset, hz']
      · simp (disch := omega) only [go_sem, Nat.reduceEqDiff, Nat.reduceAdd, Nat.reduceMul, Nat.reduceSub, Nat.reduceLeDiff, ↓reduceIte, reduceCtorEq, Int.reduceAdd, Int.reduceSub, Int.reduceMul, Int.reduceNeg, Int.reduceToNat, List.reduceReplicate, hq2, List.map_cons]
        intro r2 hr2
        refine DCalls.fzArgs r2 (upd_same _ _ _) ?_
        simp (disch := omega) only [go_sem, Nat.reduceEqDiff, Nat.reduceAdd, Nat.reduceMul, Nat.reduceSub, Nat.reduceLeDiff, ↓reduceIte, reduceCtorEq, Int.reduceAdd, Int.reduceSub, Int.reduceMul, Int.reduceNeg, Int.reduceToNat, List.reduceReplicate]
        refine (copy_spec G q n l _ hq hl').mono ?_
        rintro _ _ ⟨rfl, rfl⟩
        simp (disch := omega) only [go_sem, Nat.reduceEqDiff, Nat.reduceAdd, Nat.reduceMul, Nat.reduceSub, Nat.reduceLeDiff, ↓reduceIte, reduceCtorEq, Int.reduceAdd, Int.reduceSub, Int.reduceMul, Int.reduceNeg, Int.reduceToNat, List.reduceReplicate, hq2, List.map_cons]
        refine DFin.sub (H' := H) (fun r o ho => ?_) (DFin.refl ⟨?_, rfl⟩)
        · have e1 := none_ne hra ho
          have e2 : r ≠ r2 := fun e => by subst e; simp [e1, ho] at hr2
          simp [upd, e1, e2, ho]
        · rw [htk, ← hset]
end Go.Dl

-- The reference of chapter 31: Remove, Choose, Open.
namespace Go.Dl
open Go Go.Proofs
set_option maxRecDepth 10000

theorem eraseIdx_take_step (l : List Int) (i k : Nat) (hk : k < l.length) : (l.take (k + 1)).eraseIdx i = if k = i then (l.take k).eraseIdx i else (l.take k).eraseIdx i ++ [l[k]] := by
  rw [List.take_add_one, List.getElem?_eq_getElem hk]
  simp only [Option.toList_some]
  have hl : (l.take k).length = k := by rw [List.length_take]; omega
  by_cases h : i < k
  · rw [if_neg (by omega), List.eraseIdx_append_of_lt_length (by omega)]
  · rw [List.eraseIdx_append_of_length_le (by omega), hl]
    by_cases h2 : k = i
    · subst h2; rw [if_pos rfl, Nat.sub_self, List.eraseIdx_of_length_le (l := l.take k) (by omega)]; simp
    · rw [if_neg h2, List.eraseIdx_of_length_le (l := [l[k]]) (by simp; omega), List.eraseIdx_of_length_le (l := l.take k) (by omega)]

theorem rremove_spec (G : Nat → DVal) (q : List (List Int)) (t : Int) (H : DHeap) (hq : q.length ≤ 1099511627776) (hb : q.flatten.length ≤ 1099511627776) (hl : ∀ l ∈ q, l.length ≤ 1000000000) : DCalls Try.prog G 16 [dIss q, dI t] H (DRet (.tuple [dIss (removeL q t).1, dI (removeL q t).2]) H) := by
  have hl' : ∀ l ∈ q, l.length ≤ 1099511627776 := fun l h => Nat.le_trans (hl l h) (by omega)
  refine dcalls_intro Try.func16 Try.call16 rfl (by kernel_rfl) ?_
  simp (disch := omega) only [go_sem, Nat.reduceEqDiff, Nat.reduceAdd, Nat.reduceMul, Nat.reduceSub, Nat.reduceLeDiff, ↓reduceIte, reduceCtorEq, Int.reduceAdd, Int.reduceSub, Int.reduceMul, Int.reduceNeg, Int.reduceToNat, List.reduceReplicate]
  refine (rmay_spec G q _ hq hb hl').mono ?_
  rintro _ H ⟨rfl, rfl⟩
  cases hm : mayQ q with
  | false =>
    simp (disch := omega) only [go_sem, Nat.reduceEqDiff, Nat.reduceAdd, Nat.reduceMul, Nat.reduceSub, Nat.reduceLeDiff, ↓reduceIte, reduceCtorEq, Int.reduceAdd, Int.reduceSub, Int.reduceMul, Int.reduceNeg, Int.reduceToNat, List.reduceReplicate]
    refine DFin.le (DLe.tuple (.cons .nilIss (.refl _))) (DFin.refl ⟨?_, rfl⟩)
    simp [removeL, hm, dIss]
  | true =>
    simp (disch := omega) only [go_sem, Nat.reduceEqDiff, Nat.reduceAdd, Nat.reduceMul, Nat.reduceSub, Nat.reduceLeDiff, ↓reduceIte, reduceCtorEq, Int.reduceAdd, Int.reduceSub, Int.reduceMul, Int.reduceNeg, Int.reduceToNat, List.reduceReplicate]
    refine (task_spec G t _).mono ?_
    rintro _ H ⟨rfl, rfl⟩
    by_cases c3 : 0 ≤ t ∧ t < 32
    · have hr : ∀ {x}, (match findP q t with
        | none => (([], 6) : List (List Int) × Int)
        | some p => (q.set p.1 ((q.getD p.1 []).eraseIdx (idx (q.getD p.1 []) t).toNat), 0)) = x → removeL q t = x := fun h => by
        rw [removeL, hm, if_neg (by simp), if_neg (fun h => h c3)]; exact h
      simp (disch := omega) only [go_sem, Nat.reduceEqDiff, Nat.reduceAdd, Nat.reduceMul, Nat.reduceSub, Nat.reduceLeDiff, ↓reduceIte, reduceCtorEq, Int.reduceAdd, Int.reduceSub, Int.reduceMul, Int.reduceNeg, Int.reduceToNat, List.reduceReplicate, c3]
      refine (place_spec' G q t _ hq hb hl').mono ?_
      rintro _ H ⟨rfl, rfl⟩
      cases hf : findP q t with
      | none =>
        have h0 := findP_none.1 hf
        simp (disch := omega) only [go_sem, Nat.reduceEqDiff, Nat.reduceAdd, Nat.reduceMul, Nat.reduceSub, Nat.reduceLeDiff, ↓reduceIte, reduceCtorEq, Int.reduceAdd, Int.reduceSub, Int.reduceMul, Int.reduceNeg, Int.reduceToNat, List.reduceReplicate, h0]
        refine DFin.le (DLe.tuple (.cons .nilIss (.refl _))) (DFin.refl ⟨?_, rfl⟩)
        rw [hr (by rw [hf])]; rfl
      | some p =>
        have h0 : ¬ ((q.flatten.count t : Nat) : Int) = 0 := fun e => by rw [findP_none.2 (by omega)] at hf; cases hf
        obtain ⟨hp, hp2, hp3⟩ := findP_mem hf
        obtain ⟨i, hi, hil⟩ := idx_found hp3
        have hln := hl q[p.1] (List.getElem_mem hp)
        have hg : q.getD p.1 [] = q[p.1] := by simp [hp]
        simp (disch := omega) only [go_sem, Nat.reduceEqDiff, Nat.reduceAdd, Nat.reduceMul, Nat.reduceSub, Nat.reduceLeDiff, ↓reduceIte, reduceCtorEq, Int.reduceAdd, Int.reduceSub, Int.reduceMul, Int.reduceNeg, Int.reduceToNat, List.reduceReplicate, h0, placeE, hf, hg, hi]
        obtain ⟨I, hI⟩ : ∃ I : Nat → (Nat → DVal) → DHeap → Prop, ∀ k env heap, I k env heap ↔ (env 0 = dIss q ∧ env 7 = dI p.1 ∧ env 8 = dI i ∧ env 10 = dI k ∧ k ≤ q[p.1].length ∧ OwnA H 3 1 ((q[p.1].take k).eraseIdx i).length (((q[p.1].take k).eraseIdx i).map dI) (env 9) heap) := ⟨_, fun _ _ _ => Iff.rfl⟩
        refine DLoop.run I (fun k => q[p.1].length - k) 0 ((hI _ _ _).2 ?_) ?_
        · simp (disch := omega) only [go_sem, Nat.reduceEqDiff, Nat.reduceAdd, Nat.reduceMul, Nat.reduceSub, Nat.reduceLeDiff, ↓reduceIte, reduceCtorEq, Int.reduceAdd, Int.reduceSub, Int.reduceMul, Int.reduceNeg, Int.reduceToNat, List.reduceReplicate]
          (repeat' apply And.intro) <;> (try first | rfl | assumption | omega)
          exact .nil _ _ _
        · intro k env heap hk
          obtain ⟨h0, h7, h8, h10, hk, hv⟩ := (hI _ _ _).1 hk
          have hkl : ((q[p.1].take k).eraseIdx i).length ≤ k := Nat.le_trans (List.length_eraseIdx_le _ _) (by rw [List.length_take]; omega)
          by_cases hlt : k < q[p.1].length
          · have hst := eraseIdx_take_step q[p.1] i k hlt
            by_cases hki : k = i
            · have hki' : (k : Int) = (i : Int) := by omega
              rw [if_pos hki] at hst
              simp (disch := omega) only [go_sem, Nat.reduceEqDiff, Nat.reduceAdd, Nat.reduceMul, Nat.reduceSub, Nat.reduceLeDiff, ↓reduceIte, reduceCtorEq, Int.reduceAdd, Int.reduceSub, Int.reduceMul, Int.reduceNeg, Int.reduceToNat, List.reduceReplicate, h0, h7, h8, h10, hki']
              refine ⟨k + 1, _, GhostS.refl _, (hI _ _ _).2 ?_, by omega⟩
              simp (disch := omega) only [go_sem, Nat.reduceEqDiff, Nat.reduceAdd, Nat.reduceMul, Nat.reduceSub, Nat.reduceLeDiff, ↓reduceIte, reduceCtorEq, Int.reduceAdd, Int.reduceSub, Int.reduceMul, Int.reduceNeg, Int.reduceToNat, List.reduceReplicate, h0, h7, h8, h10]
              (repeat' apply And.intro) <;> (try first | rfl | assumption | omega)
              · rw [← hki']; rfl
              · rw [hst]; exact hv
            · have hki' : ¬ (k : Int) = (i : Int) := by omega
              rw [if_neg hki] at hst
              simp (disch := omega) only [go_sem, Nat.reduceEqDiff, Nat.reduceAdd, Nat.reduceMul, Nat.reduceSub, Nat.reduceLeDiff, ↓reduceIte, reduceCtorEq, Int.reduceAdd, Int.reduceSub, Int.reduceMul, Int.reduceNeg, Int.reduceToNat, List.reduceReplicate, h0, h7, h8, h10, hki']
              intro r hr; dsimp only at hr
              simp (disch := omega) only [go_sem, Nat.reduceEqDiff, Nat.reduceAdd, Nat.reduceMul, Nat.reduceSub, Nat.reduceLeDiff, ↓reduceIte, reduceCtorEq, Int.reduceAdd, Int.reduceSub, Int.reduceMul, Int.reduceNeg, Int.reduceToNat, List.reduceReplicate]
              obtain ⟨hv', hr'⟩ := hv.frame hr (.cells [dI (q[p.1][k])] 3)
              refine hv'.append (m := 1) rfl (by omega) fun v' H' h' => ?_
              simp (disch := omega) only [go_sem, Nat.reduceEqDiff, Nat.reduceAdd, Nat.reduceMul, Nat.reduceSub, Nat.reduceLeDiff, ↓reduceIte, reduceCtorEq, Int.reduceAdd, Int.reduceSub, Int.reduceMul, Int.reduceNeg, Int.reduceToNat, List.reduceReplicate, h0, h7, h8, h10]
              refine ⟨k + 1, _, GhostS.drop _ r, (hI _ _ _).2 ?_, by omega⟩
              simp (disch := omega) only [go_sem, Nat.reduceEqDiff, Nat.reduceAdd, Nat.reduceMul, Nat.reduceSub, Nat.reduceLeDiff, ↓reduceIte, reduceCtorEq, Int.reduceAdd, Int.reduceSub, Int.reduceMul, Int.reduceNeg, Int.reduceToNat, List.reduceReplicate, h0, h7, h8, h10]
              (repeat' apply And.intro) <;> (try first | rfl | assumption | omega)
              have := h'.unframe hr'
              rw [hst, List.map_append, List.length_append]
              exact this
          · simp (disch := omega) only [go_sem, Nat.reduceEqDiff, Nat.reduceAdd, Nat.reduceMul, Nat.reduceSub, Nat.reduceLeDiff, ↓reduceIte, reduceCtorEq, Int.reduceAdd, Int.reduceSub, Int.reduceMul, Int.reduceNeg, Int.reduceToNat, List.reduceReplicate, h0, h7, h8, h10]
            have hkq : k = q[p.1].length := by omega
            subst hkq
            rw [List.take_length] at hv
            refine DCalls.pre (hv.ghostA (ds := [DVal.vslice (q.map dIs) q.length, dI p.1]) (ds' := []) (fun r cs => by simp [fzs, fz, fzs_intss]) (fun r cs => by simp [fzs])) ?_
            refine (copy_spec G q p.1 (q[p.1].eraseIdx i) _ hq hl').mono ?_
            rintro _ H ⟨rfl, rfl⟩
            simp (disch := omega) only [go_sem, Nat.reduceEqDiff, Nat.reduceAdd, Nat.reduceMul, Nat.reduceSub, Nat.reduceLeDiff, ↓reduceIte, reduceCtorEq, Int.reduceAdd, Int.reduceSub, Int.reduceMul, Int.reduceNeg, Int.reduceToNat, List.reduceReplicate]
            refine DFin.refl ⟨?_, rfl⟩
            rw [hr (by rw [hf])]
            simp only [hg, hi, Int.toNat_natCast]
            simp [dIss, setI]
    · simp (disch := omega) only [go_sem, Nat.reduceEqDiff, Nat.reduceAdd, Nat.reduceMul, Nat.reduceSub, Nat.reduceLeDiff, ↓reduceIte, reduceCtorEq, Int.reduceAdd, Int.reduceSub, Int.reduceMul, Int.reduceNeg, Int.reduceToNat, List.reduceReplicate, c3]
      refine DFin.le (DLe.tuple (.cons .nilIss (.refl _))) (DFin.refl ⟨?_, rfl⟩)
      rw [removeL, hm, if_neg (by simp), if_pos c3]; rfl

theorem rchoose_spec (G : Nat → DVal) (q : List (List Int)) (l : List Int) (H : DHeap) (hq : q.length ≤ 1099511627776) (hb : q.flatten.length ≤ 1099511627776) (hl : ∀ l ∈ q, l.length ≤ 1000000000) (hll : l.length ≤ 1099511627776) : DCalls Try.prog G 24 [dIss q, dIs l] H (DRet (chooseD q l) H) := by
  have hl' : ∀ l ∈ q, l.length ≤ 1099511627776 := fun l h => Nat.le_trans (hl l h) (by omega)
  refine dcalls_intro Try.func24 Try.call24 rfl (by kernel_rfl) ?_
  simp (disch := omega) only [go_sem, Nat.reduceEqDiff, Nat.reduceAdd, Nat.reduceMul, Nat.reduceSub, Nat.reduceLeDiff, ↓reduceIte, reduceCtorEq, Int.reduceAdd, Int.reduceSub, Int.reduceMul, Int.reduceNeg, Int.reduceToNat, List.reduceReplicate]
  refine (rmay_spec G q _ hq hb hl').mono ?_
  rintro _ H ⟨rfl, rfl⟩
  cases hm : mayQ q with
  | false =>
    simp (disch := omega) only [go_sem, Nat.reduceEqDiff, Nat.reduceAdd, Nat.reduceMul, Nat.reduceSub, Nat.reduceLeDiff, ↓reduceIte, reduceCtorEq, Int.reduceAdd, Int.reduceSub, Int.reduceMul, Int.reduceNeg, Int.reduceToNat, List.reduceReplicate]
    refine DFin.refl ⟨?_, rfl⟩
    have : chooseI q l = none := by
      unfold chooseI
      rw [List.findIdx?_eq_none_iff]
      intro x _
      simp [hasC, cntL, hm]
      try omega
    simp [chooseD, this]
  | true =>
    have hC : ∀ x : Int, hasC (cntL q) x = decide (0 ≤ x ∧ x < q.length ∧ 0 < (q.getD x.toNat []).length) := fun x => by
      simp only [hasC, cntL, hm, if_true, List.length_map]
      apply decide_eq_decide.2
      constructor
      · rintro ⟨h1, h2, h3⟩
        have : x.toNat < q.length := by omega
        refine ⟨h1, h2, ?_⟩
        simp [this] at h3 ⊢; omega
      · rintro ⟨h1, h2, h3⟩
        have : x.toNat < q.length := by omega
        refine ⟨h1, h2, ?_⟩
        simp [this] at h3 ⊢; omega
    simp (disch := omega) only [go_sem, Nat.reduceEqDiff, Nat.reduceAdd, Nat.reduceMul, Nat.reduceSub, Nat.reduceLeDiff, ↓reduceIte, reduceCtorEq, Int.reduceAdd, Int.reduceSub, Int.reduceMul, Int.reduceNeg, Int.reduceToNat, List.reduceReplicate]
    obtain ⟨I, hI⟩ : ∃ I : Nat → (Nat → DVal) → DHeap → Prop, ∀ k env heap, I k env heap ↔ (H = heap ∧ env 0 = dIss q ∧ env 1 = dIs l ∧ env 6 = dI k ∧ k ≤ l.length ∧ ∀ x ∈ l.take k, hasC (cntL q) x = false) := ⟨_, fun _ _ _ => Iff.rfl⟩
    refine DLoop.run I (fun k => l.length - k) 0 ((hI _ _ _).2 ?_) ?_
    · simp (disch := omega) only [go_sem, Nat.reduceEqDiff, Nat.reduceAdd, Nat.reduceMul, Nat.reduceSub, Nat.reduceLeDiff, ↓reduceIte, reduceCtorEq, Int.reduceAdd, Int.reduceSub, Int.reduceMul, Int.reduceNeg, Int.reduceToNat, List.reduceReplicate]
      simp
    · intro k env heap hk
      obtain ⟨rfl, h0, h1, h6, hk, hn⟩ := (hI _ _ _).1 hk
      by_cases hlt : k < l.length
      · have stay : hasC (cntL q) l[k] = false → ∀ x ∈ l.take (k + 1), hasC (cntL q) x = false := fun h x hx => by
          rw [List.take_add_one, List.getElem?_eq_getElem hlt] at hx
          rcases List.mem_append.1 hx with hx | hx
          · exact hn x hx
          · simp at hx; subst hx; exact h
        by_cases c1 : 0 ≤ l[k]
        · by_cases c2 : l[k] < q.length
          · obtain ⟨i, hi⟩ : ∃ i : Nat, l[k] = i := ⟨l[k].toNat, by omega⟩
            have hiq : i < q.length := by omega
            by_cases c3 : 0 < q[i].length
            · have hyes : hasC (cntL q) l[k] = true := by rw [hC, hi]; simp [hiq]; omega
              simp (disch := omega) only [go_sem, Nat.reduceEqDiff, Nat.reduceAdd, Nat.reduceMul, Nat.reduceSub, Nat.reduceLeDiff, ↓reduceIte, reduceCtorEq, Int.reduceAdd, Int.reduceSub, Int.reduceMul, Int.reduceNeg, Int.reduceToNat, List.reduceReplicate, h0, h1, h6, hi]
              refine DFin.refl ⟨?_, rfl⟩
              have : chooseI q l = some k := by
                unfold chooseI
                rw [List.findIdx?_eq_some_iff_getElem]
                refine ⟨hlt, hyes, fun j hj => ?_⟩
                have := hn (l[j]) (List.mem_take_iff_getElem.2 ⟨j, by omega, rfl⟩)
                simp [this]
              simp [chooseD, this]
            · have hno : hasC (cntL q) l[k] = false := by rw [hC, hi]; exact decide_eq_false (fun h => c3 (by have := h.2.2; simpa [hiq] using this))
              simp (disch := omega) only [go_sem, Nat.reduceEqDiff, Nat.reduceAdd, Nat.reduceMul, Nat.reduceSub, Nat.reduceLeDiff, ↓reduceIte, reduceCtorEq, Int.reduceAdd, Int.reduceSub, Int.reduceMul, Int.reduceNeg, Int.reduceToNat, List.reduceReplicate, h0, h1, h6, hi]
              refine ⟨k + 1, _, GhostS.refl _, (hI _ _ _).2 ?_, by omega⟩
              simp (disch := omega) only [go_sem, Nat.reduceEqDiff, Nat.reduceAdd, Nat.reduceMul, Nat.reduceSub, Nat.reduceLeDiff, ↓reduceIte, reduceCtorEq, Int.reduceAdd, Int.reduceSub, Int.reduceMul, Int.reduceNeg, Int.reduceToNat, List.reduceReplicate, h0, h1, h6]
              (repeat' apply And.intro) <;> (try first | rfl | assumption | omega)
              exact stay hno
          · have hno : hasC (cntL q) l[k] = false := by rw [hC]; exact decide_eq_false (fun h => by omega)
            simp (disch := omega) only [go_sem, Nat.reduceEqDiff, Nat.reduceAdd, Nat.reduceMul, Nat.reduceSub, Nat.reduceLeDiff, ↓reduceIte, reduceCtorEq, Int.reduceAdd, Int.reduceSub, Int.reduceMul, Int.reduceNeg, Int.reduceToNat, List.reduceReplicate, h0, h1, h6]
            refine ⟨k + 1, _, GhostS.refl _, (hI _ _ _).2 ?_, by omega⟩
            simp (disch := omega) only [go_sem, Nat.reduceEqDiff, Nat.reduceAdd, Nat.reduceMul, Nat.reduceSub, Nat.reduceLeDiff, ↓reduceIte, reduceCtorEq, Int.reduceAdd, Int.reduceSub, Int.reduceMul, Int.reduceNeg, Int.reduceToNat, List.reduceReplicate, h0, h1, h6]
            (repeat' apply And.intro) <;> (try first | rfl | assumption | omega)
            exact stay hno
        · have hno : hasC (cntL q) l[k] = false := by rw [hC]; exact decide_eq_false (fun h => by omega)
          simp (disch := omega) only [go_sem, Nat.reduceEqDiff, Nat.reduceAdd, Nat.reduceMul, Nat.reduceSub, Nat.reduceLeDiff, ↓reduceIte, reduceCtorEq, Int.reduceAdd, Int.reduceSub, Int.reduceMul, Int.reduceNeg, Int.reduceToNat, List.reduceReplicate, h0, h1, h6]
          refine ⟨k + 1, _, GhostS.refl _, (hI _ _ _).2 ?_, by omega⟩
          simp (disch := omega) only [go_sem, Nat.reduceEqDiff, Nat.reduceAdd, Nat.reduceMul, Nat.reduceSub, Nat.reduceLeDiff, ↓reduceIte, reduceCtorEq, Int.reduceAdd, Int.reduceSub, Int.reduceMul, Int.reduceNeg, Int.reduceToNat, List.reduceReplicate, h0, h1, h6]
          (repeat' apply And.intro) <;> (try first | rfl | assumption | omega)
          exact stay hno
      · simp (disch := omega) only [go_sem, Nat.reduceEqDiff, Nat.reduceAdd, Nat.reduceMul, Nat.reduceSub, Nat.reduceLeDiff, ↓reduceIte, reduceCtorEq, Int.reduceAdd, Int.reduceSub, Int.reduceMul, Int.reduceNeg, Int.reduceToNat, List.reduceReplicate, h0, h1, h6]
        have hkq : k = l.length := by omega
        subst hkq
        rw [List.take_length] at hn
        refine DFin.refl ⟨?_, rfl⟩
        have : chooseI q l = none := by
          unfold chooseI
          rw [List.findIdx?_eq_none_iff]; exact hn
        simp [chooseD, this]

theorem clp_first {q : List (List Int)} (s : Nat) (P : Nat → Bool) : (∀ k, k < q.length → (P (s + k) && decide (0 < (q.getD k []).length)) = false) → (clp s q).find? (fun p => P p.1) = none := by
  intro h
  rw [List.find?_eq_none]
  intro p hp
  obtain ⟨h1, h2, h3⟩ := clp_mem hp
  have := h (p.1 - s) h1
  rw [show s + (p.1 - s) = p.1 by omega] at this
  have h4 : 0 < (q.getD (p.1 - s) []).length := by
    have : q.getD (p.1 - s) [] = q[p.1 - s] := by simp [h1]
    rw [this]; exact List.length_pos_of_mem h3
  rw [decide_eq_true h4, Bool.and_true] at this
  simp [this]

theorem clp_found {q : List (List Int)} : ∀ (s : Nat) (P : Nat → Bool) (k : Nat) (u : Int) (l : List Int), q[k]? = some (u :: l) → P (s + k) = true → (∀ j, j < k → (P (s + j) && decide (0 < (q.getD j []).length)) = false) → (clp s q).find? (fun p => P p.1) = some (s + k, u) := by
  induction q with
  | nil => intro s P k u l h; simp at h
  | cons a q ih =>
    intro s P k u l h hp hn
    simp only [clp, List.find?_append]
    cases k with
    | zero =>
      simp at h; subst h
      simp at hp
      simp [hp]
    | succ k =>
      have h0 := hn 0 (by omega)
      have h1 : (a.map (fun t => (s, t))).find? (fun p => P p.1) = none := by
        rw [List.find?_eq_none]
        intro p hp'
        simp only [List.mem_map] at hp'
        obtain ⟨t, ht, rfl⟩ := hp'
        have := List.length_pos_of_mem ht
        simpa [this] using h0
      rw [h1, Option.none_or]
      have := ih (s + 1) P k u l (by simpa using h) (by rw [show s + 1 + k = s + (k + 1) by omega]; exact hp) (fun j hj => by
        have := hn (j + 1) (by omega)
        rw [show s + 1 + j = s + (j + 1) by omega]; simpa using this)
      rw [this, show s + 1 + k = s + (k + 1) by omega]

theorem ropen_spec (G : Nat → DVal) (q : List (List Int)) (o : List Bool) (H : DHeap) (hq : q.length ≤ 1099511627776) (hb : q.flatten.length ≤ 1099511627776) (hl : ∀ l ∈ q, l.length ≤ 1000000000) (ho : o.length ≤ 1099511627776) : DCalls Try.prog G 26 [dIss q, dBs o] H (DRet (openD q o) H) := by
  have hl' : ∀ l ∈ q, l.length ≤ 1099511627776 := fun l h => Nat.le_trans (hl l h) (by omega)
  refine dcalls_intro Try.func26 Try.call26 rfl (by kernel_rfl) ?_
  simp (disch := omega) only [go_sem, Nat.reduceEqDiff, Nat.reduceAdd, Nat.reduceMul, Nat.reduceSub, Nat.reduceLeDiff, ↓reduceIte, reduceCtorEq, Int.reduceAdd, Int.reduceSub, Int.reduceMul, Int.reduceNeg, Int.reduceToNat, List.reduceReplicate, dBs]
  refine (rmay_spec G q _ hq hb hl').mono ?_
  rintro _ H ⟨rfl, rfl⟩
  cases hm : mayQ q with
  | false =>
    simp (disch := omega) only [go_sem, Nat.reduceEqDiff, Nat.reduceAdd, Nat.reduceMul, Nat.reduceSub, Nat.reduceLeDiff, ↓reduceIte, reduceCtorEq, Int.reduceAdd, Int.reduceSub, Int.reduceMul, Int.reduceNeg, Int.reduceToNat, List.reduceReplicate]
    exact DFin.refl ⟨by simp [openD, hm], rfl⟩
  | true =>
    simp (disch := omega) only [go_sem, Nat.reduceEqDiff, Nat.reduceAdd, Nat.reduceMul, Nat.reduceSub, Nat.reduceLeDiff, ↓reduceIte, reduceCtorEq, Int.reduceAdd, Int.reduceSub, Int.reduceMul, Int.reduceNeg, Int.reduceToNat, List.reduceReplicate]
    have fin : (∀ k, k < q.length → (o.getD k false && decide (0 < (q.getD k []).length)) = false) → openD q o = .tuple [dI 0, dI 0, .bool false] := fun h => by
      have : openP q o = none := clp_first 0 (fun e => o.getD e false) (by simpa using h)
      simp [openD, hm, this]
    obtain ⟨I, hI⟩ : ∃ I : Nat → (Nat → DVal) → DHeap → Prop, ∀ k env heap, I k env heap ↔ (H = heap ∧ env 0 = dIss q ∧ env 1 = dBs o ∧ env 7 = dI k ∧ k ≤ q.length ∧ ∀ j, j < k → (o.getD j false && decide (0 < (q.getD j []).length)) = false) := ⟨_, fun _ _ _ => Iff.rfl⟩
    refine DLoop.run I (fun k => q.length - k) 0 ((hI _ _ _).2 ?_) ?_
    · simp (disch := omega) only [go_sem, Nat.reduceEqDiff, Nat.reduceAdd, Nat.reduceMul, Nat.reduceSub, Nat.reduceLeDiff, ↓reduceIte, reduceCtorEq, Int.reduceAdd, Int.reduceSub, Int.reduceMul, Int.reduceNeg, Int.reduceToNat, List.reduceReplicate]
      simp [dBs]
    · intro k env heap hk
      obtain ⟨rfl, h0, h1, h7, hk, hn⟩ := (hI _ _ _).1 hk
      by_cases hlt : k < q.length
      · by_cases hlo : k < o.length
        · have stay : (o.getD k false && decide (0 < (q.getD k []).length)) = false → ∀ j, j < k + 1 → (o.getD j false && decide (0 < (q.getD j []).length)) = false := fun h j hj => by
            by_cases e : j = k
            · subst e; exact h
            · exact hn j (by omega)
          have hgo : o.getD k false = o[k] := by simp [hlo]
          have hgq : q.getD k [] = q[k] := by simp [hlt]
          rw [hgo, hgq] at stay
          cases hok : o[k] with
          | false =>
            simp (disch := omega) only [go_sem, Nat.reduceEqDiff, Nat.reduceAdd, Nat.reduceMul, Nat.reduceSub, Nat.reduceLeDiff, ↓reduceIte, reduceCtorEq, Int.reduceAdd, Int.reduceSub, Int.reduceMul, Int.reduceNeg, Int.reduceToNat, List.reduceReplicate, h0, h1, h7, dBs, hok]
            refine ⟨k + 1, _, GhostS.refl _, (hI _ _ _).2 ?_, by omega⟩
            simp (disch := omega) only [go_sem, Nat.reduceEqDiff, Nat.reduceAdd, Nat.reduceMul, Nat.reduceSub, Nat.reduceLeDiff, ↓reduceIte, reduceCtorEq, Int.reduceAdd, Int.reduceSub, Int.reduceMul, Int.reduceNeg, Int.reduceToNat, List.reduceReplicate, h0, h1, h7, dBs]
            (repeat' apply And.intro) <;> (try first | rfl | assumption | omega)
            exact stay (by simp [hok])
          | true =>
            cases hqk : q[k] with
            | nil =>
              simp (disch := omega) only [go_sem, Nat.reduceEqDiff, Nat.reduceAdd, Nat.reduceMul, Nat.reduceSub, Nat.reduceLeDiff, ↓reduceIte, reduceCtorEq, Int.reduceAdd, Int.reduceSub, Int.reduceMul, Int.reduceNeg, Int.reduceToNat, List.reduceReplicate, h0, h1, h7, dBs, hok, hqk]
              refine ⟨k + 1, _, GhostS.refl _, (hI _ _ _).2 ?_, by omega⟩
              simp (disch := omega) only [go_sem, Nat.reduceEqDiff, Nat.reduceAdd, Nat.reduceMul, Nat.reduceSub, Nat.reduceLeDiff, ↓reduceIte, reduceCtorEq, Int.reduceAdd, Int.reduceSub, Int.reduceMul, Int.reduceNeg, Int.reduceToNat, List.reduceReplicate, h0, h1, h7, dBs]
              (repeat' apply And.intro) <;> (try first | rfl | assumption | omega)
              exact stay (by simp [hqk])
            | cons u l =>
              have hlk := hl _ (List.getElem_mem hlt)
              simp (disch := omega) only [go_sem, Nat.reduceEqDiff, Nat.reduceAdd, Nat.reduceMul, Nat.reduceSub, Nat.reduceLeDiff, ↓reduceIte, reduceCtorEq, Int.reduceAdd, Int.reduceSub, Int.reduceMul, Int.reduceNeg, Int.reduceToNat, List.reduceReplicate, h0, h1, h7, dBs, hok, hqk, List.map_cons]
              refine dwp_draws (by kernel_rfl) (.take 0 (.take 1 (.take 2 (.take 3 (.take 4 (.take 5 (.take 6 (.take 7 (.take 8 (.take 9 .done)))))))))) (by kernel_rfl) ?_
              simp (disch := omega) only [go_sem, Nat.reduceEqDiff, Nat.reduceAdd, Nat.reduceMul, Nat.reduceSub, Nat.reduceLeDiff, ↓reduceIte, reduceCtorEq, Int.reduceAdd, Int.reduceSub, Int.reduceMul, Int.reduceNeg, Int.reduceToNat, List.reduceReplicate, h0, h1, h7, dBs, hok, hqk, List.map_cons]
              refine DFin.refl ⟨?_, rfl⟩
              have : openP q o = some (k, u) := by
                have := clp_found 0 (fun e => o.getD e false) k u l (by rw [List.getElem?_eq_getElem hlt, hqk]) (by rw [Nat.zero_add, hgo, hok]) (by simpa using hn)
                simpa [openP] using this
              simp [openD, hm, this]
        · simp (disch := omega) only [go_sem, Nat.reduceEqDiff, Nat.reduceAdd, Nat.reduceMul, Nat.reduceSub, Nat.reduceLeDiff, ↓reduceIte, reduceCtorEq, Int.reduceAdd, Int.reduceSub, Int.reduceMul, Int.reduceNeg, Int.reduceToNat, List.reduceReplicate, h0, h1, h7, dBs]
          refine DFin.refl ⟨?_, rfl⟩
          rw [fin]
          intro j hj
          by_cases e : j < k
          · exact hn j e
          · have : o.getD j false = false := by simp [show ¬ j < o.length by omega]
            rw [this]; rfl
      · simp (disch := omega) only [go_sem, Nat.reduceEqDiff, Nat.reduceAdd, Nat.reduceMul, Nat.reduceSub, Nat.reduceLeDiff, ↓reduceIte, reduceCtorEq, Int.reduceAdd, Int.reduceSub, Int.reduceMul, Int.reduceNeg, Int.reduceToNat, List.reduceReplicate, h0, h1, h7, dBs]
        refine DFin.refl ⟨?_, rfl⟩
        rw [fin]
        intro j hj
        exact hn j (by omega)
end Go.Dl

-- Plain laws of queues: what Put, Find, Take, Remove do one behind the other.
namespace Go.Dl
open Go

theorem clp_append (s : Nat) (a b : List (List Int)) : clp s (a ++ b) = clp s a ++ clp (s + a.length) b := by
  induction a generalizing s with
  | nil => simp [clp]
  | cons l a ih =>
    simp only [List.cons_append, clp, ih, List.length_cons, List.append_assoc]
    rw [show s + 1 + a.length = s + (a.length + 1) by omega]

theorem clp_find_none {s : Nat} {q : List (List Int)} {t : Int} (h : t ∉ q.flatten) : (clp s q).find? (fun p => p.2 = t) = none := by
  rw [List.find?_eq_none]
  intro p hp e
  simp only [decide_eq_true_eq] at e
  refine h ?_
  rw [← clp_snd s, List.mem_map]
  exact ⟨p, hp, e⟩

theorem split_at (q : List (List Int)) (n : Nat) (h : n < q.length) : q = q.take n ++ q[n] :: q.drop (n + 1) := by
  have h1 := List.take_append_drop n q
  rw [List.drop_eq_getElem_cons h] at h1
  exact h1.symm
theorem set_split (q : List (List Int)) (n : Nat) (l : List Int) (h : n < q.length) : q.set n l = q.take n ++ l :: q.drop (n + 1) := by
  rw [List.set_eq_take_append_cons_drop, if_pos h]

theorem set_flat_count (q : List (List Int)) (n : Nat) (m : List Int) (h : n < q.length) (x : Int) : (q.set n (q[n] ++ m)).flatten.count x = q.flatten.count x + m.count x := by
  rw [set_split q n _ h]
  conv => rhs; rw [split_at q n h]
  simp only [List.flatten_append, List.flatten_cons, List.count_append]
  omega

theorem mem_flat_set (q : List (List Int)) (n : Nat) (m : List Int) (h : n < q.length) (x : Int) : x ∈ (q.set n (q[n] ++ m)).flatten ↔ x ∈ q.flatten ∨ x ∈ m := by
  rw [← List.count_pos_iff, set_flat_count q n m h, ← List.count_pos_iff, ← List.count_pos_iff]
  omega

/-- A task that is in no queue is put at the end of a queue: these are queues. -/
theorem mayQ_put {q : List (List Int)} {n : Nat} {t : Int} (hm : mayQ q = true) (h : n < q.length) (ht : 0 ≤ t ∧ t < 32) (hn : t ∉ q.flatten) : mayQ (q.set n (q[n] ++ [t])) = true := by
  simp only [mayQ, Bool.and_eq_true, decide_eq_true_eq, List.all_eq_true] at hm ⊢
  obtain ⟨⟨h1, h2⟩, h3⟩ := hm
  refine ⟨⟨by simpa using h1, fun x hx => ?_⟩, ?_⟩
  · rcases (mem_flat_set q n [t] h x).1 hx with hx | hx
    · exact h2 x hx
    · simp at hx; subst hx; exact ht
  · rw [List.nodup_iff_count] at h3 ⊢
    intro x
    rw [set_flat_count q n [t] h]
    by_cases hx : x = t
    · subst hx
      rw [List.count_eq_zero.2 hn]; simp
    · rw [List.count_eq_zero.2 (show x ∉ [t] by simpa using hx)]; exact h3 x

theorem findP_put {q : List (List Int)} {n : Nat} {t : Int} (h : n < q.length) (hn : t ∉ q.flatten) : findP (q.set n (q[n] ++ [t])) t = some (n, t) := by
  have h0 := split_at q n h
  have hT : t ∉ (q.take n).flatten := fun hx => hn (by rw [h0]; simp only [List.flatten_append, List.mem_append]; exact .inl hx)
  have hq : t ∉ q[n] := fun hx => hn (by rw [h0]; simp only [List.flatten_append, List.flatten_cons, List.mem_append]; exact .inr (.inl hx))
  unfold findP
  rw [set_split q n _ h, clp_append, List.find?_append, clp_find_none hT, Option.none_or]
  have hl : (q.take n).length = n := by rw [List.length_take]; omega
  simp only [hl, Nat.zero_add, clp, List.map_append, List.find?_append]
  have : (q[n].map (fun t => (n, t))).find? (fun p => p.2 = t) = none := by
    rw [List.find?_eq_none]
    intro p hp e
    simp only [List.mem_map] at hp
    obtain ⟨u, hu, rfl⟩ := hp
    simp at e; subst e; exact hq hu
  rw [this]; simp

theorem idx_put {l : List Int} {t : Int} (h : t ∉ l) : idx (l ++ [t]) t = l.length := by
  unfold idx
  have : (l ++ [t]).findIdx? (fun x => decide (x = t)) = some l.length := by
    rw [List.findIdx?_eq_some_iff_getElem]
    refine ⟨by simp, by simp, fun j hj => ?_⟩
    rw [List.getElem_append_left (by omega)]
    have : l[j] ≠ t := fun e => h (e ▸ List.getElem_mem (by omega))
    simpa using this
  rw [this]

theorem put_ok {q : List (List Int)} {e t : Int} (h : (putL q e t).2 = 0) : ∃ n : Nat, ∃ hn : n < q.length, e = n ∧ mayQ q = true ∧ (0 ≤ t ∧ t < 32) ∧ t ∉ q.flatten ∧ putL q e t = (q.set n (q[n] ++ [t]), 0) := by
  unfold putL at h
  split at h
  · rename_i hc; exact absurd h hc
  · rename_i hc
    simp only [ne_eq, Decidable.not_not] at hc
    obtain ⟨hm, e0, e1, t0, t1⟩ := chk_zero hc
    split at h
    · simp at h
    · rename_i hf
      have hf' : findP q t = none := by
        cases hx : findP q t with
        | none => rfl
        | some p => rw [hx] at hf; exact absurd rfl hf
      obtain ⟨n, rfl⟩ : ∃ n : Nat, e = n := ⟨e.toNat, by omega⟩
      have hn : n < q.length := by omega
      refine ⟨n, hn, rfl, hm, ⟨t0, t1⟩, ?_, ?_⟩
      · rw [← List.count_eq_zero]
        exact findP_none.1 hf'
      · simp [putL, hc, hf', hn]

theorem put_fail {q : List (List Int)} {e t : Int} (h : (putL q e t).2 ≠ 0) : (putL q e t).1 = [] := by
  unfold putL at h ⊢
  split
  · rfl
  · split
    · rfl
    · rename_i h1 h2
      rw [if_neg h1, if_neg h2] at h
      exact absurd rfl h

theorem remove_put {q : List (List Int)} {n : Nat} {t : Int} (hm : mayQ q = true) (h : n < q.length) (ht : 0 ≤ t ∧ t < 32) (hn : t ∉ q.flatten) : removeL (q.set n (q[n] ++ [t])) t = (q, 0) := by
  have hq : t ∉ q[n] := fun hx => hn (by rw [split_at q n h]; simp only [List.flatten_append, List.flatten_cons, List.mem_append]; exact .inr (.inl hx))
  rw [removeL, mayQ_put hm h ht hn, if_neg (by simp), if_neg (fun h => h ht), findP_put h hn]
  have hg : (q.set n (q[n] ++ [t])).getD n [] = q[n] ++ [t] := by simp [h]
  simp only [hg, idx_put hq, Int.toNat_natCast]
  rw [List.eraseIdx_append_of_length_le (Nat.le_refl _)]
  simp

theorem find_put {q : List (List Int)} {n : Nat} {t : Int} (hm : mayQ q = true) (h : n < q.length) (ht : 0 ≤ t ∧ t < 32) (hn : t ∉ q.flatten) : findD (q.set n (q[n] ++ [t])) t = .tuple [dI n, dI q[n].length, .bool true] := by
  have hq : t ∉ q[n] := fun hx => hn (by rw [split_at q n h]; simp only [List.flatten_append, List.flatten_cons, List.mem_append]; exact .inr (.inl hx))
  have hg : (q.set n (q[n] ++ [t])).getD n [] = q[n] ++ [t] := by simp [h]
  rw [findD, mayQ_put hm h ht hn, if_pos rfl, findP_put h hn]
  simp only [hg, idx_put hq]

theorem take_put {q : List (List Int)} {n : Nat} {t : Int} (hm : mayQ q = true) (h : n < q.length) (ht : 0 ≤ t ∧ t < 32) (hn : t ∉ q.flatten) :
    takeL (q.set n (q[n] ++ [t])) n = match q[n] with
      | [] => (q, t, 0)
      | u :: l => (q.set n (l ++ [t]), u, 0) := by
  have hc : chk (q.set n (q[n] ++ [t])) n 0 = 0 := by
    rw [chk, mayQ_put hm h ht hn, if_pos rfl, if_pos (by simp; omega)]
  have hg : (q.set n (q[n] ++ [t])).getD n [] = q[n] ++ [t] := by simp [h]
  rw [takeL, hc, if_neg (by simp), Int.toNat_natCast, hg]
  cases hq : q[n] with
  | nil =>
    simp only [List.nil_append, List.set_set]
    have : q.set n [] = q := by rw [← hq]; simp
    rw [this]
  | cons u l => simp
end Go.Dl
