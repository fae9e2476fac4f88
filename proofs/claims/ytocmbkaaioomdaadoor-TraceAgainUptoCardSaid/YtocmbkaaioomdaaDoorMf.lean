/- The data level and the contracts of the functions that are reached (part 6). -/
import Derived.Lib.DecodeN
import Derived.Test.YtocmbkaaioomdaaDoorMe
set_option linter.unusedSimpArgs false
set_option linter.unusedVariables false
-- Chapter 35: logs.
namespace Go.Dl
open Go Go.Proofs
set_option maxRecDepth 10000

/-- Are the times in order? -/
def sortedA (l : List Act) : Bool := (List.range (l.length - 1)).all fun i => decide ((l.getD i default).time ≤ (l.getD (i + 1) default).time)
def mayA (l : List Act) : Bool := decide (l.length ≤ 100000) && l.all validA && sortedA l
def cmpA (x y : Act) : Int := if x.time < y.time then -1 else if y.time < x.time then 1 else 0
/-- The log's acts hold what their types hold. -/
def ActsW (l : List Act) : Prop := ∀ x ∈ l, ActW x

theorem may1_spec (G : Nat → DVal) (hG : G 0 = .vptr dKinds 0) (H : DHeap) (x : Act) (hx : ActW x) : DCalls Tryd.prog G 38 [.agg (dAct x)] H (DRet (.bool (!validA x)) H) := by
  refine dcalls_intro Tryd.func38 Tryd.call38 rfl (by kernel_rfl) ?_
  simp (disch := omega) only [go_sem, Nat.reduceEqDiff, Nat.reduceAdd, Nat.reduceMul, Nat.reduceSub, Nat.reduceLeDiff, ↓reduceIte, reduceCtorEq, Int.reduceAdd, Int.reduceSub, Int.reduceMul, Int.reduceNeg, Int.reduceToNat, List.reduceReplicate, String.reduceEq, dAct, DVal.cells]
  intro r hr; dsimp only at hr
  simp (disch := omega) only [go_sem, Nat.reduceEqDiff, Nat.reduceAdd, Nat.reduceMul, Nat.reduceSub, Nat.reduceLeDiff, ↓reduceIte, reduceCtorEq, Int.reduceAdd, Int.reduceSub, Int.reduceMul, Int.reduceNeg, Int.reduceToNat, List.reduceReplicate, String.reduceEq]
  have hv := valid_spec G hG (upd H r (some (.cells [dI x.time, dI x.task, .int .u8 x.kind, dI x.a, dI x.b, dI x.n] 37))) x hx
  refine hv.mono ?_
  rintro _ H' ⟨rfl, rfl⟩
  simp (disch := omega) only [go_sem, Nat.reduceEqDiff, Nat.reduceAdd, Nat.reduceMul, Nat.reduceSub, Nat.reduceLeDiff, ↓reduceIte, reduceCtorEq, Int.reduceAdd, Int.reduceSub, Int.reduceMul, Int.reduceNeg, Int.reduceToNat, List.reduceReplicate, String.reduceEq]
  exact DFin.dropA r hr (DFin.refl ⟨rfl, rfl⟩)

theorem may2_spec (G : Nat → DVal) (H : DHeap) (x y : Act) : DCalls Tryd.prog G 41 [.agg (dAct x), .agg (dAct y)] H (DRet (dI (cmpA x y)) H) := by
  refine dcalls_intro Tryd.func41 Tryd.call41 rfl (by kernel_rfl) ?_
  simp (disch := omega) only [go_sem, Nat.reduceEqDiff, Nat.reduceAdd, Nat.reduceMul, Nat.reduceSub, Nat.reduceLeDiff, ↓reduceIte, reduceCtorEq, Int.reduceAdd, Int.reduceSub, Int.reduceMul, Int.reduceNeg, Int.reduceToNat, List.reduceReplicate, String.reduceEq, dAct, DVal.cells]
  intro r hr; dsimp only at hr
  simp (disch := omega) only [go_sem, Nat.reduceEqDiff, Nat.reduceAdd, Nat.reduceMul, Nat.reduceSub, Nat.reduceLeDiff, ↓reduceIte, reduceCtorEq, Int.reduceAdd, Int.reduceSub, Int.reduceMul, Int.reduceNeg, Int.reduceToNat, List.reduceReplicate, String.reduceEq]
  intro r2 hr2; dsimp only at hr2
  rw [upd_eq_none] at hr2
  have e1 : ¬ r = r2 := fun e => hr2.1 e.symm
  have e2 : ¬ r2 = r := hr2.1
  by_cases c1 : x.time < y.time
  · simp (disch := omega) only [go_sem, Nat.reduceEqDiff, Nat.reduceAdd, Nat.reduceMul, Nat.reduceSub, Nat.reduceLeDiff, ↓reduceIte, reduceCtorEq, Int.reduceAdd, Int.reduceSub, Int.reduceMul, Int.reduceNeg, Int.reduceToNat, List.reduceReplicate, String.reduceEq, e1, e2]
    exact DFin.dropA r2 (by simp [upd, e2, hr2.2.2]) (DFin.dropA r hr (DFin.refl ⟨by rw [cmpA, if_pos c1], rfl⟩))
  · by_cases c2 : y.time < x.time
    · simp (disch := omega) only [go_sem, Nat.reduceEqDiff, Nat.reduceAdd, Nat.reduceMul, Nat.reduceSub, Nat.reduceLeDiff, ↓reduceIte, reduceCtorEq, Int.reduceAdd, Int.reduceSub, Int.reduceMul, Int.reduceNeg, Int.reduceToNat, List.reduceReplicate, String.reduceEq, e1, e2]
      exact DFin.dropA r2 (by simp [upd, e2, hr2.2.2]) (DFin.dropA r hr (DFin.refl ⟨by rw [cmpA, if_neg c1, if_pos c2], rfl⟩))
    · simp (disch := omega) only [go_sem, Nat.reduceEqDiff, Nat.reduceAdd, Nat.reduceMul, Nat.reduceSub, Nat.reduceLeDiff, ↓reduceIte, reduceCtorEq, Int.reduceAdd, Int.reduceSub, Int.reduceMul, Int.reduceNeg, Int.reduceToNat, List.reduceReplicate, String.reduceEq, e1, e2]
      exact DFin.dropA r2 (by simp [upd, e2, hr2.2.2]) (DFin.dropA r hr (DFin.refl ⟨by rw [cmpA, if_neg c1, if_neg c2], rfl⟩))

theorem containsAct_spec (G : Nat → DVal) (H : DHeap) (p : Act → Bool) (l : List Act) (g : FuncId) (xs ys : List DVal) (hl : l.length ≤ 1099511627776)
    (hp : ∀ x ∈ l, DCalls Tryd.prog G g (xs ++ [.agg (dAct x)] ++ ys) H (DRet (.bool (p x)) H)) :
    DCalls Tryd.prog G 31 [.vslice (l.flatMap dAct) l.length, .func (.func g) xs ys] H (DRet (.bool (l.any p)) H) := by
  refine dcalls_intro Tryd.func31 Tryd.call31 rfl (by kernel_rfl) ?_
  simp (disch := omega) only [go_sem, Nat.reduceEqDiff, Nat.reduceAdd, Nat.reduceMul, Nat.reduceSub, Nat.reduceLeDiff, ↓reduceIte, reduceCtorEq, Int.reduceAdd, Int.reduceSub, Int.reduceMul, Int.reduceNeg, Int.reduceToNat, List.reduceReplicate, String.reduceEq]
  refine (indexFunc_act G H p l g xs ys hl hp).mono ?_
  rintro _ H ⟨rfl, rfl⟩
  simp (disch := omega) only [go_sem, Nat.reduceEqDiff, Nat.reduceAdd, Nat.reduceMul, Nat.reduceSub, Nat.reduceLeDiff, ↓reduceIte, reduceCtorEq, Int.reduceAdd, Int.reduceSub, Int.reduceMul, Int.reduceNeg, Int.reduceToNat, List.reduceReplicate, String.reduceEq]
  exact DFin.refl ⟨by rw [idxF_any], rfl⟩

theorem sortedA_iff {l : List Act} : sortedA l = true ↔ ∀ i, i + 1 < l.length → (l.getD i default).time ≤ (l.getD (i + 1) default).time := by
  simp only [sortedA, List.all_eq_true, List.mem_range, decide_eq_true_eq]
  exact ⟨fun h i hi => h i (by omega), fun h i hi => h i (by omega)⟩

theorem sorted_spec (G : Nat → DVal) (H : DHeap) (l : List Act) (hl : l.length ≤ 1099511627776) :
    DCalls Tryd.prog G 40 [.vslice (l.flatMap dAct) l.length, .func (.func 41) [] []] H (DRet (.bool (sortedA l)) H) := by
  have hw : IntKind.i64.wrap ((l.length : Int) - 1) = (l.length : Int) - 1 := by rw [IntKind.wrap_i64]; omega
  refine dcalls_intro Tryd.func40 Tryd.call40 rfl (by kernel_rfl) ?_
  simp (disch := omega) only [go_sem, Nat.reduceEqDiff, Nat.reduceAdd, Nat.reduceMul, Nat.reduceSub, Nat.reduceLeDiff, ↓reduceIte, reduceCtorEq, Int.reduceAdd, Int.reduceSub, Int.reduceMul, Int.reduceNeg, Int.reduceToNat, List.reduceReplicate, String.reduceEq, hw]
  refine DLoop.run (fun (j : Nat) env heap => heap = H ∧ env 0 = .vslice (l.flatMap dAct) l.length ∧ env 1 = .func (.func 41) [] [] ∧ env 5 = dI ((j : Int) - 1) ∧ j ≤ l.length ∧ ∀ i, j ≤ i + 1 → i + 1 < l.length → (l.getD i default).time ≤ (l.getD (i + 1) default).time) (fun j => j) l.length ?_ ?_
  · simp (disch := omega) only [go_sem, Nat.reduceEqDiff, Nat.reduceAdd, Nat.reduceMul, Nat.reduceSub, Nat.reduceLeDiff, ↓reduceIte, reduceCtorEq, Int.reduceAdd, Int.reduceSub, Int.reduceMul, Int.reduceNeg, Int.reduceToNat, List.reduceReplicate, String.reduceEq]
    (repeat' apply And.intro) <;> (try first | rfl | assumption | omega)
  · rintro j env heap ⟨rfl, h0, h1, h5, hj, hn⟩
    by_cases hlt : 1 < j
    · obtain ⟨i, rfl⟩ : ∃ i, j = i + 2 := ⟨j - 2, by omega⟩
      have e5 : ((i + 2 : Nat) : Int) - 1 = ((i + 1 : Nat) : Int) := by omega
      have hg1 := flat_el dAct_length l (i + 1) (by omega)
      have hg0 := flat_el dAct_length l i (by omega)
      rw [e5] at h5
      have hw2 : IntKind.i64.wrap (((i + 1 : Nat) : Int) - 1) = (i : Int) := by rw [IntKind.wrap_i64]; omega
      simp (disch := omega) only [go_sem, Nat.reduceEqDiff, Nat.reduceAdd, Nat.reduceMul, Nat.reduceSub, Nat.reduceLeDiff, ↓reduceIte, reduceCtorEq, Int.reduceAdd, Int.reduceSub, Int.reduceMul, Int.reduceNeg, Int.reduceToNat, List.reduceReplicate, String.reduceEq, h0, h1, h5]
      refine dwp_draws (by kernel_rfl) (.take 0 (.take 1 (.take 2 (.take 3 (.take 4 (.take 5 (.take 6 (.take 7 (.take 8 (.take 9 (.go 10 [] (.take 11 .done)))))))))))) (by kernel_rfl) ?_
      simp (disch := omega) only [go_sem, Nat.reduceEqDiff, Nat.reduceAdd, Nat.reduceMul, Nat.reduceSub, Nat.reduceLeDiff, ↓reduceIte, reduceCtorEq, Int.reduceAdd, Int.reduceSub, Int.reduceMul, Int.reduceNeg, Int.reduceToNat, List.reduceReplicate, String.reduceEq, h0, h1, h5, hg1, hg0, hw2, flat_len dAct_length]
      refine (may2_spec G _ l[i + 1] l[i]).mono ?_
      rintro _ H ⟨rfl, rfl⟩
      by_cases c : l[i + 1].time < l[i].time
      · have : cmpA l[i + 1] l[i] = -1 := by rw [cmpA, if_pos c]
        rw [this]
        simp (disch := omega) only [go_sem, Nat.reduceEqDiff, Nat.reduceAdd, Nat.reduceMul, Nat.reduceSub, Nat.reduceLeDiff, ↓reduceIte, reduceCtorEq, Int.reduceAdd, Int.reduceSub, Int.reduceMul, Int.reduceNeg, Int.reduceToNat, List.reduceReplicate, String.reduceEq, h0, h1, h5]
        refine DFin.refl ⟨?_, rfl⟩
        have : sortedA l = false := by
          rw [← Bool.not_eq_true, sortedA_iff]
          intro h
          have := h i (by omega)
          simp only [List.getD, List.getElem?_eq_getElem (show i < l.length by omega), List.getElem?_eq_getElem (show i + 1 < l.length by omega), Option.getD_some] at this
          omega
        rw [this]
      · have : 0 ≤ cmpA l[i + 1] l[i] := by rw [cmpA, if_neg c]; split <;> omega
        simp (disch := omega) only [go_sem, Nat.reduceEqDiff, Nat.reduceAdd, Nat.reduceMul, Nat.reduceSub, Nat.reduceLeDiff, ↓reduceIte, reduceCtorEq, Int.reduceAdd, Int.reduceSub, Int.reduceMul, Int.reduceNeg, Int.reduceToNat, List.reduceReplicate, String.reduceEq, h0, h1, h5, hw2]
        refine ⟨i + 1, _, GhostS.refl _, ?_, by omega⟩
        simp (disch := omega) only [go_sem, Nat.reduceEqDiff, Nat.reduceAdd, Nat.reduceMul, Nat.reduceSub, Nat.reduceLeDiff, ↓reduceIte, reduceCtorEq, Int.reduceAdd, Int.reduceSub, Int.reduceMul, Int.reduceNeg, Int.reduceToNat, List.reduceReplicate, String.reduceEq, h0, h1, h5, hw2]
        (repeat' apply And.intro) <;> (try first | rfl | assumption | omega)
        · rw [show ((i + 1 : Nat) : Int) - 1 = i by omega]
        intro i' hi1 hi2
        by_cases e : i' = i
        · subst e
          simp only [List.getD, List.getElem?_eq_getElem (show i' < l.length by omega), List.getElem?_eq_getElem (show i' + 1 < l.length by omega), Option.getD_some]
          omega
        · exact hn i' (by omega) hi2
    · simp (disch := omega) only [go_sem, Nat.reduceEqDiff, Nat.reduceAdd, Nat.reduceMul, Nat.reduceSub, Nat.reduceLeDiff, ↓reduceIte, reduceCtorEq, Int.reduceAdd, Int.reduceSub, Int.reduceMul, Int.reduceNeg, Int.reduceToNat, List.reduceReplicate, String.reduceEq, h0, h1, h5]
      refine DFin.refl ⟨?_, rfl⟩
      rw [sortedA_iff.2 fun i hi => hn i (by omega) hi]

theorem may_spec (G : Nat → DVal) (hG : G 0 = .vptr dKinds 0) (H : DHeap) (l : List Act) (hl : l.length ≤ 1099511627776) (hx : ActsW l) : DCalls Tryd.prog G 13 [dActs l] H (DRet (.bool (mayA l)) H) := by
  refine dcalls_intro Tryd.func13 Tryd.call13 rfl (by kernel_rfl) ?_
  have hany : (l.any fun x => !validA x) = !l.all validA := by
    clear hx hl
    induction l with
    | nil => rfl
    | cons x l ih => simp only [List.any_cons, List.all_cons, ih, Bool.not_and]
  by_cases c1 : l.length ≤ 100000
  · simp (disch := omega) only [go_sem, Nat.reduceEqDiff, Nat.reduceAdd, Nat.reduceMul, Nat.reduceSub, Nat.reduceLeDiff, ↓reduceIte, reduceCtorEq, Int.reduceAdd, Int.reduceSub, Int.reduceMul, Int.reduceNeg, Int.reduceToNat, List.reduceReplicate, String.reduceEq, dActs]
    refine (containsAct_spec G H (fun x => !validA x) l 38 [] [] hl fun x hm => may1_spec G hG H x (hx x hm)).mono ?_
    rintro _ H ⟨rfl, rfl⟩
    rw [hany]
    cases c2 : l.all validA with
    | true =>
      simp (disch := omega) only [go_sem, Nat.reduceEqDiff, Nat.reduceAdd, Nat.reduceMul, Nat.reduceSub, Nat.reduceLeDiff, ↓reduceIte, reduceCtorEq, Int.reduceAdd, Int.reduceSub, Int.reduceMul, Int.reduceNeg, Int.reduceToNat, List.reduceReplicate, String.reduceEq]
      refine (sorted_spec G _ l hl).mono ?_
      rintro _ H ⟨rfl, rfl⟩
      simp (disch := omega) only [go_sem, Nat.reduceEqDiff, Nat.reduceAdd, Nat.reduceMul, Nat.reduceSub, Nat.reduceLeDiff, ↓reduceIte, reduceCtorEq, Int.reduceAdd, Int.reduceSub, Int.reduceMul, Int.reduceNeg, Int.reduceToNat, List.reduceReplicate, String.reduceEq]
      exact DFin.refl ⟨by rw [mayA, decide_eq_true c1, c2]; rfl, rfl⟩
    | false =>
      simp (disch := omega) only [go_sem, Nat.reduceEqDiff, Nat.reduceAdd, Nat.reduceMul, Nat.reduceSub, Nat.reduceLeDiff, ↓reduceIte, reduceCtorEq, Int.reduceAdd, Int.reduceSub, Int.reduceMul, Int.reduceNeg, Int.reduceToNat, List.reduceReplicate, String.reduceEq]
      exact DFin.refl ⟨by rw [mayA, decide_eq_true c1, c2]; rfl, rfl⟩
  · simp (disch := omega) only [go_sem, Nat.reduceEqDiff, Nat.reduceAdd, Nat.reduceMul, Nat.reduceSub, Nat.reduceLeDiff, ↓reduceIte, reduceCtorEq, Int.reduceAdd, Int.reduceSub, Int.reduceMul, Int.reduceNeg, Int.reduceToNat, List.reduceReplicate, String.reduceEq, dActs]
    exact DFin.refl ⟨by rw [mayA, decide_eq_false c1]; rfl, rfl⟩
end Go.Dl

-- Chapter 35: the reference's logs.
namespace Go.Dl
open Go Go.Proofs
set_option maxRecDepth 10000

def usesK (k : Int) : Int := if 1 ≤ k ∧ k < 28 then (kindAt k).2 else -1

theorem uses_spec (G : Nat → DVal) (H : DHeap) (k : Int) (h0 : 0 ≤ k) (h1 : k < 256) : DCalls Tryd.prog G 60 [.int .u8 k] H (DRet (dI (usesK k)) H) := by
  by_cases h : 1 ≤ k ∧ k < 28
  · have e : k = 1 ∨ k = 2 ∨ k = 3 ∨ k = 4 ∨ k = 5 ∨ k = 6 ∨ k = 7 ∨ k = 8 ∨ k = 9 ∨ k = 10 ∨ k = 11 ∨ k = 12 ∨ k = 13 ∨ k = 14 ∨ k = 15 ∨ k = 16 ∨ k = 17 ∨ k = 18 ∨ k = 19 ∨ k = 20 ∨ k = 21 ∨ k = 22 ∨ k = 23 ∨ k = 24 ∨ k = 25 ∨ k = 26 ∨ k = 27 := by omega
    rw [usesK, if_pos h]
    clear h h0 h1
    rcases e with rfl | rfl | rfl | rfl | rfl | rfl | rfl | rfl | rfl | rfl | rfl | rfl | rfl | rfl | rfl | rfl | rfl | rfl | rfl | rfl | rfl | rfl | rfl | rfl | rfl | rfl | rfl
    all_goals
      refine dcalls_intro Tryd.func60 Tryd.call60 rfl (by kernel_rfl) ?_
      simp (disch := omega) only [go_sem, Nat.reduceEqDiff, Nat.reduceAdd, Nat.reduceMul, Nat.reduceSub, Nat.reduceLeDiff, ↓reduceIte, reduceCtorEq, Int.reduceAdd, Int.reduceSub, Int.reduceMul, Int.reduceNeg, Int.reduceToNat, List.reduceReplicate, String.reduceEq]
      exact DFin.refl ⟨rfl, rfl⟩
  · rw [usesK, if_neg h]
    refine dcalls_intro Tryd.func60 Tryd.call60 rfl (by kernel_rfl) ?_
    by_cases hk : k = 0
    · subst hk
      simp (disch := omega) only [go_sem, Nat.reduceEqDiff, Nat.reduceAdd, Nat.reduceMul, Nat.reduceSub, Nat.reduceLeDiff, ↓reduceIte, reduceCtorEq, Int.reduceAdd, Int.reduceSub, Int.reduceMul, Int.reduceNeg, Int.reduceToNat, List.reduceReplicate, String.reduceEq]
      exact DFin.refl ⟨rfl, rfl⟩
    · simp (disch := omega) only [go_sem, Nat.reduceEqDiff, Nat.reduceAdd, Nat.reduceMul, Nat.reduceSub, Nat.reduceLeDiff, ↓reduceIte, reduceCtorEq, Int.reduceAdd, Int.reduceSub, Int.reduceMul, Int.reduceNeg, Int.reduceToNat, List.reduceReplicate, String.reduceEq]
      exact DFin.refl ⟨rfl, rfl⟩

theorem rvalid_spec (G : Nat → DVal) (H : DHeap) (x : Act) (hx : ActW x) : DCalls Tryd.prog G 42 [.agg (dAct x)] H (DRet (.bool (validA x)) H) := by
  obtain ⟨w0, w1, _⟩ := hx
  have no : actOk x = false → validA x = false := fun h => by rw [validA, h]; rfl
  refine dcalls_intro Tryd.func42 Tryd.call42 rfl (by kernel_rfl) ?_
  simp (disch := omega) only [go_sem, Nat.reduceEqDiff, Nat.reduceAdd, Nat.reduceMul, Nat.reduceSub, Nat.reduceLeDiff, ↓reduceIte, reduceCtorEq, Int.reduceAdd, Int.reduceSub, Int.reduceMul, Int.reduceNeg, Int.reduceToNat, List.reduceReplicate, String.reduceEq, dAct, DVal.cells]
  intro r hr; dsimp only at hr
  simp (disch := omega) only [go_sem, Nat.reduceEqDiff, Nat.reduceAdd, Nat.reduceMul, Nat.reduceSub, Nat.reduceLeDiff, ↓reduceIte, reduceCtorEq, Int.reduceAdd, Int.reduceSub, Int.reduceMul, Int.reduceNeg, Int.reduceToNat, List.reduceReplicate, String.reduceEq]
  refine (uses_spec G _ x.kind w0 w1).mono ?_
  rintro _ H' ⟨rfl, rfl⟩
  by_cases h : 1 ≤ x.kind ∧ x.kind < 28
  · have hle := kindAt_le x.kind
    rw [usesK, if_pos h]
    obtain ⟨m, hm⟩ : ∃ m, (kindAt x.kind).2 = m := ⟨_, rfl⟩
    rw [hm] at hle ⊢
    by_cases c3 : x.task < 0
    · simp (disch := omega) only [go_sem, Nat.reduceEqDiff, Nat.reduceAdd, Nat.reduceMul, Nat.reduceSub, Nat.reduceLeDiff, ↓reduceIte, reduceCtorEq, Int.reduceAdd, Int.reduceSub, Int.reduceMul, Int.reduceNeg, Int.reduceToNat, List.reduceReplicate, String.reduceEq]
      exact DFin.dropA r hr (DFin.refl ⟨by rw [no (decide_eq_false (by omega))], rfl⟩)
    by_cases c4 : 31 < x.task
    · simp (disch := omega) only [go_sem, Nat.reduceEqDiff, Nat.reduceAdd, Nat.reduceMul, Nat.reduceSub, Nat.reduceLeDiff, ↓reduceIte, reduceCtorEq, Int.reduceAdd, Int.reduceSub, Int.reduceMul, Int.reduceNeg, Int.reduceToNat, List.reduceReplicate, String.reduceEq]
      exact DFin.dropA r hr (DFin.refl ⟨by rw [no (decide_eq_false (by omega))], rfl⟩)
    by_cases c5 : x.time < 0
    · simp (disch := omega) only [go_sem, Nat.reduceEqDiff, Nat.reduceAdd, Nat.reduceMul, Nat.reduceSub, Nat.reduceLeDiff, ↓reduceIte, reduceCtorEq, Int.reduceAdd, Int.reduceSub, Int.reduceMul, Int.reduceNeg, Int.reduceToNat, List.reduceReplicate, String.reduceEq]
      exact DFin.dropA r hr (DFin.refl ⟨by rw [no (decide_eq_false (by omega))], rfl⟩)
    by_cases c6 : 9007199254740992 < x.time
    · simp (disch := omega) only [go_sem, Nat.reduceEqDiff, Nat.reduceAdd, Nat.reduceMul, Nat.reduceSub, Nat.reduceLeDiff, ↓reduceIte, reduceCtorEq, Int.reduceAdd, Int.reduceSub, Int.reduceMul, Int.reduceNeg, Int.reduceToNat, List.reduceReplicate, String.reduceEq]
      exact DFin.dropA r hr (DFin.refl ⟨by rw [no (decide_eq_false (by omega))], rfl⟩)
    have hv : validA x = !nz ([x.a, x.b, x.n].drop m) := by rw [validA, actOk, decide_eq_true (by omega), hm, Bool.true_and]
    rw [hv]
    clear no hv
    have e : m = 0 ∨ m = 1 ∨ m = 2 ∨ m = 3 := by omega
    rcases e with rfl | rfl | rfl | rfl
    · by_cases a0 : x.a = 0
      · by_cases b0 : x.b = 0
        · by_cases n0 : x.n = 0
          · simp (disch := omega) only [go_sem, Nat.reduceEqDiff, Nat.reduceAdd, Nat.reduceMul, Nat.reduceSub, Nat.reduceLeDiff, ↓reduceIte, reduceCtorEq, Int.reduceAdd, Int.reduceSub, Int.reduceMul, Int.reduceNeg, Int.reduceToNat, List.reduceReplicate, String.reduceEq]
            exact DFin.dropA r hr (DFin.refl ⟨by simp [nz, a0, b0, n0], rfl⟩)
          · simp (disch := omega) only [go_sem, Nat.reduceEqDiff, Nat.reduceAdd, Nat.reduceMul, Nat.reduceSub, Nat.reduceLeDiff, ↓reduceIte, reduceCtorEq, Int.reduceAdd, Int.reduceSub, Int.reduceMul, Int.reduceNeg, Int.reduceToNat, List.reduceReplicate, String.reduceEq]
            exact DFin.dropA r hr (DFin.refl ⟨by simp [nz, a0, b0, n0], rfl⟩)
        · simp (disch := omega) only [go_sem, Nat.reduceEqDiff, Nat.reduceAdd, Nat.reduceMul, Nat.reduceSub, Nat.reduceLeDiff, ↓reduceIte, reduceCtorEq, Int.reduceAdd, Int.reduceSub, Int.reduceMul, Int.reduceNeg, Int.reduceToNat, List.reduceReplicate, String.reduceEq]
          exact DFin.dropA r hr (DFin.refl ⟨by simp [nz, a0, b0], rfl⟩)
      · simp (disch := omega) only [go_sem, Nat.reduceEqDiff, Nat.reduceAdd, Nat.reduceMul, Nat.reduceSub, Nat.reduceLeDiff, ↓reduceIte, reduceCtorEq, Int.reduceAdd, Int.reduceSub, Int.reduceMul, Int.reduceNeg, Int.reduceToNat, List.reduceReplicate, String.reduceEq]
        exact DFin.dropA r hr (DFin.refl ⟨by simp [nz, a0], rfl⟩)
    · by_cases b0 : x.b = 0
      · by_cases n0 : x.n = 0
        · simp (disch := omega) only [go_sem, Nat.reduceEqDiff, Nat.reduceAdd, Nat.reduceMul, Nat.reduceSub, Nat.reduceLeDiff, ↓reduceIte, reduceCtorEq, Int.reduceAdd, Int.reduceSub, Int.reduceMul, Int.reduceNeg, Int.reduceToNat, List.reduceReplicate, String.reduceEq]
          exact DFin.dropA r hr (DFin.refl ⟨by simp [nz, b0, n0], rfl⟩)
        · simp (disch := omega) only [go_sem, Nat.reduceEqDiff, Nat.reduceAdd, Nat.reduceMul, Nat.reduceSub, Nat.reduceLeDiff, ↓reduceIte, reduceCtorEq, Int.reduceAdd, Int.reduceSub, Int.reduceMul, Int.reduceNeg, Int.reduceToNat, List.reduceReplicate, String.reduceEq]
          exact DFin.dropA r hr (DFin.refl ⟨by simp [nz, b0, n0], rfl⟩)
      · simp (disch := omega) only [go_sem, Nat.reduceEqDiff, Nat.reduceAdd, Nat.reduceMul, Nat.reduceSub, Nat.reduceLeDiff, ↓reduceIte, reduceCtorEq, Int.reduceAdd, Int.reduceSub, Int.reduceMul, Int.reduceNeg, Int.reduceToNat, List.reduceReplicate, String.reduceEq]
        exact DFin.dropA r hr (DFin.refl ⟨by simp [nz, b0], rfl⟩)
    · by_cases n0 : x.n = 0
      · simp (disch := omega) only [go_sem, Nat.reduceEqDiff, Nat.reduceAdd, Nat.reduceMul, Nat.reduceSub, Nat.reduceLeDiff, ↓reduceIte, reduceCtorEq, Int.reduceAdd, Int.reduceSub, Int.reduceMul, Int.reduceNeg, Int.reduceToNat, List.reduceReplicate, String.reduceEq]
        exact DFin.dropA r hr (DFin.refl ⟨by simp [nz, n0], rfl⟩)
      · simp (disch := omega) only [go_sem, Nat.reduceEqDiff, Nat.reduceAdd, Nat.reduceMul, Nat.reduceSub, Nat.reduceLeDiff, ↓reduceIte, reduceCtorEq, Int.reduceAdd, Int.reduceSub, Int.reduceMul, Int.reduceNeg, Int.reduceToNat, List.reduceReplicate, String.reduceEq]
        exact DFin.dropA r hr (DFin.refl ⟨by simp [nz, n0], rfl⟩)
    · simp (disch := omega) only [go_sem, Nat.reduceEqDiff, Nat.reduceAdd, Nat.reduceMul, Nat.reduceSub, Nat.reduceLeDiff, ↓reduceIte, reduceCtorEq, Int.reduceAdd, Int.reduceSub, Int.reduceMul, Int.reduceNeg, Int.reduceToNat, List.reduceReplicate, String.reduceEq]
      exact DFin.dropA r hr (DFin.refl ⟨by simp [nz], rfl⟩)
  · rw [usesK, if_neg h]
    simp (disch := omega) only [go_sem, Nat.reduceEqDiff, Nat.reduceAdd, Nat.reduceMul, Nat.reduceSub, Nat.reduceLeDiff, ↓reduceIte, reduceCtorEq, Int.reduceAdd, Int.reduceSub, Int.reduceMul, Int.reduceNeg, Int.reduceToNat, List.reduceReplicate, String.reduceEq]
    exact DFin.dropA r hr (DFin.refl ⟨by rw [no (decide_eq_false (by omega))], rfl⟩)

theorem act_time (l : List Act) (i : Nat) (h : i < l.length) : (l.flatMap dAct)[i * 6]? = some (dI l[i].time) := by
  have := flat_get dAct_length l i h 0 (by omega)
  simpa [dAct] using this

theorem rmay_spec (G : Nat → DVal) (H : DHeap) (l : List Act) (hl : l.length ≤ 1099511627776) (hx : ActsW l) : DCalls Tryd.prog G 14 [dActs l] H (DRet (.bool (mayA l)) H) := by
  refine dcalls_intro Tryd.func14 Tryd.call14 rfl (by kernel_rfl) ?_
  by_cases c1 : 100000 < l.length
  · simp (disch := omega) only [go_sem, Nat.reduceEqDiff, Nat.reduceAdd, Nat.reduceMul, Nat.reduceSub, Nat.reduceLeDiff, ↓reduceIte, reduceCtorEq, Int.reduceAdd, Int.reduceSub, Int.reduceMul, Int.reduceNeg, Int.reduceToNat, List.reduceReplicate, String.reduceEq, dActs]
    exact DFin.refl ⟨by rw [mayA, decide_eq_false (by omega)]; rfl, rfl⟩
  simp (disch := omega) only [go_sem, Nat.reduceEqDiff, Nat.reduceAdd, Nat.reduceMul, Nat.reduceSub, Nat.reduceLeDiff, ↓reduceIte, reduceCtorEq, Int.reduceAdd, Int.reduceSub, Int.reduceMul, Int.reduceNeg, Int.reduceToNat, List.reduceReplicate, String.reduceEq, dActs]
  refine DLoop.run (fun (i : Nat) env heap => heap = H ∧ env 0 = .vslice (l.flatMap dAct) l.length ∧ env 3 = dI i ∧ i ≤ l.length ∧ (∀ x ∈ l.take i, validA x = true) ∧ ∀ j, j + 1 < i → (l.getD j default).time ≤ (l.getD (j + 1) default).time) (fun i => l.length - i) 0 ?_ ?_
  · simp (disch := omega) only [go_sem, Nat.reduceEqDiff, Nat.reduceAdd, Nat.reduceMul, Nat.reduceSub, Nat.reduceLeDiff, ↓reduceIte, reduceCtorEq, Int.reduceAdd, Int.reduceSub, Int.reduceMul, Int.reduceNeg, Int.reduceToNat, List.reduceReplicate, String.reduceEq]
    (repeat' apply And.intro) <;> (try first | rfl | assumption | omega)
    simp
  · rintro i env heap ⟨rfl, h0, h3, hi, hn, hs⟩
    by_cases hlt : i < l.length
    · have hg := flat_el dAct_length l i hlt
      have hf := flat_len dAct_length l
      have ht := act_time l i hlt
      simp (disch := omega) only [go_sem, Nat.reduceEqDiff, Nat.reduceAdd, Nat.reduceMul, Nat.reduceSub, Nat.reduceLeDiff, ↓reduceIte, reduceCtorEq, Int.reduceAdd, Int.reduceSub, Int.reduceMul, Int.reduceNeg, Int.reduceToNat, List.reduceReplicate, String.reduceEq, h0, h3]
      refine dwp_draws (by kernel_rfl) (.take 0 (.take 1 (.take 2 (.take 3 (.go 4 [] (.take 5 (.take 6 (.take 7 (.take 8 (.take 9 (.take 10 (.take 11 (.take 12 (.take 13 (.take 14 (.take 15 (.take 16 (.take 17 (.take 18 (.take 19 (.take 20 (.take 21 (.take 22 (.take 23 .done)))))))))))))))))))))))) (by kernel_rfl) ?_
      simp (disch := omega) only [go_sem, Nat.reduceEqDiff, Nat.reduceAdd, Nat.reduceMul, Nat.reduceSub, Nat.reduceLeDiff, ↓reduceIte, reduceCtorEq, Int.reduceAdd, Int.reduceSub, Int.reduceMul, Int.reduceNeg, Int.reduceToNat, List.reduceReplicate, String.reduceEq, h0, h3, hg, hf]
      have hv := rvalid_spec G heap l[i] (hx _ (List.getElem_mem hlt))
      refine hv.mono ?_
      rintro _ H ⟨rfl, rfl⟩
      cases c2 : validA l[i] with
      | false =>
        simp (disch := omega) only [go_sem, Nat.reduceEqDiff, Nat.reduceAdd, Nat.reduceMul, Nat.reduceSub, Nat.reduceLeDiff, ↓reduceIte, reduceCtorEq, Int.reduceAdd, Int.reduceSub, Int.reduceMul, Int.reduceNeg, Int.reduceToNat, List.reduceReplicate, String.reduceEq, h0, h3]
        refine DFin.refl ⟨?_, rfl⟩
        have : l.all validA = false := by rw [List.all_eq_false]; exact ⟨_, List.getElem_mem hlt, by simp [c2]⟩
        rw [mayA, this, Bool.and_false, Bool.false_and]
      | true =>
        by_cases e : i = 0
        · subst e
          simp (disch := omega) only [go_sem, Nat.reduceEqDiff, Nat.reduceAdd, Nat.reduceMul, Nat.reduceSub, Nat.reduceLeDiff, ↓reduceIte, reduceCtorEq, Int.reduceAdd, Int.reduceSub, Int.reduceMul, Int.reduceNeg, Int.reduceToNat, List.reduceReplicate, String.reduceEq, h0, h3]
          refine ⟨1, _, GhostS.refl _, ?_, by omega⟩
          simp (disch := omega) only [go_sem, Nat.reduceEqDiff, Nat.reduceAdd, Nat.reduceMul, Nat.reduceSub, Nat.reduceLeDiff, ↓reduceIte, reduceCtorEq, Int.reduceAdd, Int.reduceSub, Int.reduceMul, Int.reduceNeg, Int.reduceToNat, List.reduceReplicate, String.reduceEq, h0, h3]
          (repeat' apply And.intro) <;> (try first | rfl | assumption | omega)
          exact take_next (p := fun x => validA x = true) hlt hn c2
        · obtain ⟨k, rfl⟩ : ∃ k, i = k + 1 := ⟨i - 1, by omega⟩
          have ht2 := act_time l k (by omega)
          have hw2 : IntKind.i64.wrap (((k + 1 : Nat) : Int) - 1) = (k : Int) := by rw [IntKind.wrap_i64]; omega
          by_cases c : l[k + 1].time < l[k].time
          · simp (disch := omega) only [go_sem, Nat.reduceEqDiff, Nat.reduceAdd, Nat.reduceMul, Nat.reduceSub, Nat.reduceLeDiff, ↓reduceIte, reduceCtorEq, Int.reduceAdd, Int.reduceSub, Int.reduceMul, Int.reduceNeg, Int.reduceToNat, List.reduceReplicate, String.reduceEq, h0, h3, ht, ht2, hf, hw2]
            refine DFin.refl ⟨?_, rfl⟩
            have : sortedA l = false := by
              rw [← Bool.not_eq_true, sortedA_iff]
              intro h
              have := h k (by omega)
              simp only [List.getD, List.getElem?_eq_getElem (show k < l.length by omega), List.getElem?_eq_getElem (show k + 1 < l.length by omega), Option.getD_some] at this
              omega
            rw [mayA, this, Bool.and_false]
          · simp (disch := omega) only [go_sem, Nat.reduceEqDiff, Nat.reduceAdd, Nat.reduceMul, Nat.reduceSub, Nat.reduceLeDiff, ↓reduceIte, reduceCtorEq, Int.reduceAdd, Int.reduceSub, Int.reduceMul, Int.reduceNeg, Int.reduceToNat, List.reduceReplicate, String.reduceEq, h0, h3, ht, ht2, hf, hw2]
            refine ⟨k + 2, _, GhostS.refl _, ?_, by omega⟩
            simp (disch := omega) only [go_sem, Nat.reduceEqDiff, Nat.reduceAdd, Nat.reduceMul, Nat.reduceSub, Nat.reduceLeDiff, ↓reduceIte, reduceCtorEq, Int.reduceAdd, Int.reduceSub, Int.reduceMul, Int.reduceNeg, Int.reduceToNat, List.reduceReplicate, String.reduceEq, h0, h3]
            (repeat' apply And.intro) <;> (try first | rfl | assumption | omega)
            · exact take_next (p := fun x => validA x = true) hlt hn c2
            · intro j hj
              by_cases e : j = k
              · subst e
                simp only [List.getD, List.getElem?_eq_getElem (show j < l.length by omega), List.getElem?_eq_getElem (show j + 1 < l.length by omega), Option.getD_some]
                omega
              · exact hs j (by omega)
    · simp (disch := omega) only [go_sem, Nat.reduceEqDiff, Nat.reduceAdd, Nat.reduceMul, Nat.reduceSub, Nat.reduceLeDiff, ↓reduceIte, reduceCtorEq, Int.reduceAdd, Int.reduceSub, Int.reduceMul, Int.reduceNeg, Int.reduceToNat, List.reduceReplicate, String.reduceEq, h0, h3]
      have : i = l.length := by omega
      subst this
      rw [List.take_length] at hn
      refine DFin.refl ⟨?_, rfl⟩
      rw [mayA, decide_eq_true (by omega), List.all_eq_true.2 hn, sortedA_iff.2 fun j hj => hs j (by omega)]
      rfl
end Go.Dl

-- Chapter 35: texts.
namespace Go.Dl
open Go Go.Proofs
set_option maxRecDepth 10000

/-- The digits of what is left (none of 0). -/
def decZ (u : Nat) : List UInt8 := if u = 0 then [] else Lib.decDigits u
theorem decZ_step (u : Nat) (h : u ≠ 0) : decZ u = decZ (u / 10) ++ [UInt8.ofNat (48 + u % 10)] := by
  unfold decZ
  rw [if_neg h]
  by_cases h1 : u < 10
  · rw [if_pos (by omega), Lib.decDigits_one h1, show u % 10 = u by omega]; rfl
  · rw [if_neg (by omega), Lib.decDigits, dif_neg h1]

theorem number_spec (G : Nat → DVal) (H : DHeap) (n : Int) (h1 : -9223372036854775808 ≤ n) (h2 : n ≤ 9223372036854775807) : DCalls Tryd.prog G 58 [dI n] H (DRet (.str (Lib.itoa n)) H) := by
  refine dcalls_intro Tryd.func58 Tryd.call58 rfl (by kernel_rfl) ?_
  by_cases h0 : n = 0
  · subst h0
    simp (disch := omega) only [go_sem, Nat.reduceEqDiff, Nat.reduceAdd, Nat.reduceMul, Nat.reduceSub, Nat.reduceLeDiff, ↓reduceIte, reduceCtorEq, Int.reduceAdd, Int.reduceSub, Int.reduceMul, Int.reduceNeg, Int.reduceToNat, List.reduceReplicate, String.reduceEq]
    exact DFin.refl ⟨by rw [Lib.itoa, if_neg (by omega), show (0 : Int).toNat = 0 from rfl, Lib.decDigits_one (by omega)]; rfl, rfl⟩
  simp (disch := omega) only [go_sem, Nat.reduceEqDiff, Nat.reduceAdd, Nat.reduceMul, Nat.reduceSub, Nat.reduceLeDiff, ↓reduceIte, reduceCtorEq, Int.reduceAdd, Int.reduceSub, Int.reduceMul, Int.reduceNeg, Int.reduceToNat, List.reduceReplicate, String.reduceEq]
  refine DLoop.run (fun (x : Int) env heap => heap = H ∧ env 0 = dI n ∧ env 4 = dI x ∧ -9223372036854775808 ≤ x ∧ x ≤ 9223372036854775807 ∧ ∃ s, env 3 = .str s ∧ decZ n.natAbs = decZ x.natAbs ++ s ∧ s.length ≤ 20) (fun x => x.natAbs) n ?_ ?_
  · simp (disch := omega) only [go_sem, Nat.reduceEqDiff, Nat.reduceAdd, Nat.reduceMul, Nat.reduceSub, Nat.reduceLeDiff, ↓reduceIte, reduceCtorEq, Int.reduceAdd, Int.reduceSub, Int.reduceMul, Int.reduceNeg, Int.reduceToNat, List.reduceReplicate, String.reduceEq]
    (repeat' apply And.intro) <;> (try first | rfl | assumption | omega)
    exact ⟨[], rfl, by simp, by simp⟩
  · rintro x env heap ⟨rfl, e0, e4, x1, x2, s, e3, hs, hl⟩
    by_cases hx : x = 0
    · subst hx
      have hs' : s = Lib.decDigits n.natAbs := by
        have := hs
        rw [show (0 : Int).natAbs = 0 from rfl, decZ, decZ, if_neg (by omega), if_pos rfl, List.nil_append] at this
        exact this.symm
      by_cases c : n < 0
      · simp (disch := omega) only [go_sem, Nat.reduceEqDiff, Nat.reduceAdd, Nat.reduceMul, Nat.reduceSub, Nat.reduceLeDiff, ↓reduceIte, reduceCtorEq, Int.reduceAdd, Int.reduceSub, Int.reduceMul, Int.reduceNeg, Int.reduceToNat, List.reduceReplicate, String.reduceEq, e0, e4, e3]
        exact DFin.refl ⟨by rw [Lib.itoa, if_pos c, hs'], rfl⟩
      · simp (disch := omega) only [go_sem, Nat.reduceEqDiff, Nat.reduceAdd, Nat.reduceMul, Nat.reduceSub, Nat.reduceLeDiff, ↓reduceIte, reduceCtorEq, Int.reduceAdd, Int.reduceSub, Int.reduceMul, Int.reduceNeg, Int.reduceToNat, List.reduceReplicate, String.reduceEq, e0, e4, e3]
        exact DFin.refl ⟨by rw [Lib.itoa, if_neg c, hs', show n.natAbs = n.toNat by omega], rfl⟩
    · have hz := decZ_step x.natAbs (by omega)
      have hlen : (decZ n.natAbs).length ≤ 20 := by
        unfold decZ; split
        · simp
        · rw [Lib.decDigits_length]; exact Lib.nDigits_le20 _ (by omega)
      have hm1 : (x.tmod 10).natAbs = x.natAbs % 10 := Int.natAbs_tmod x 10
      have hq : (x.tdiv 10).natAbs = x.natAbs / 10 := Int.natAbs_tdiv x 10
      have hm : x.natAbs % 10 < 10 := Nat.mod_lt _ (by omega)
      have hw : IntKind.i64.wrap (x.tdiv 10) = x.tdiv 10 := by rw [IntKind.wrap_i64]; omega
      rw [hs, hz, List.length_append, List.length_append] at hlen
      have hw3 : ∀ d : Nat, d < 10 → IntKind.u8.wrap (48 + (d : Int)) = 48 + (d : Int) := fun d hd => by rw [IntKind.wrap_u8]; omega
      have ho : ∀ v : Int, strOf [.int .u8 v] = some [UInt8.ofNat v.toNat] := fun v => by simp only [strOf, Option.map_some]
      generalize hdd : x.natAbs % 10 = d at hm hm1 hz
      by_cases c : x.tmod 10 < 0
      · have he : x.tmod 10 = -(d : Int) := by omega
        have hw2 : IntKind.i64.wrap (0 - -(d : Int)) = d := by rw [IntKind.wrap_i64]; omega
        simp (disch := omega) only [go_sem, Nat.reduceEqDiff, Nat.reduceAdd, Nat.reduceMul, Nat.reduceSub, Nat.reduceLeDiff, ↓reduceIte, reduceCtorEq, Int.reduceAdd, Int.reduceSub, Int.reduceMul, Int.reduceNeg, Int.reduceToNat, List.reduceReplicate, String.reduceEq, e0, e4, e3, hw, he, hw2, hw3]
        intro r hr; dsimp only at hr
        have hl2 : 1 + s.length ≤ 9223372036854775807 := by omega
        simp (disch := omega) only [go_sem, Nat.reduceEqDiff, Nat.reduceAdd, Nat.reduceMul, Nat.reduceSub, Nat.reduceLeDiff, ↓reduceIte, reduceCtorEq, Int.reduceAdd, Int.reduceSub, Int.reduceMul, Int.reduceNeg, Int.reduceToNat, List.reduceReplicate, String.reduceEq, hw3, ho, Option.bind_some, e0, e3, e4, hw, List.length_cons, List.length_nil]
        refine ⟨x.tdiv 10, _, GhostS.drop _ r, ?_, by omega⟩
        simp (disch := omega) only [go_sem, Nat.reduceEqDiff, Nat.reduceAdd, Nat.reduceMul, Nat.reduceSub, Nat.reduceLeDiff, ↓reduceIte, reduceCtorEq, Int.reduceAdd, Int.reduceSub, Int.reduceMul, Int.reduceNeg, Int.reduceToNat, List.reduceReplicate, String.reduceEq, hw3, ho, Option.bind_some, e0, e3, e4, hw, List.length_cons, List.length_nil]
        refine ⟨upd_self hr, _, rfl, ?_, ?_⟩
        · rw [hs, hz, hq, List.append_assoc, show (48 + (d : Int)).toNat = 48 + d by omega]; rfl
        · simp only [List.length_cons, List.length_nil] at hlen ⊢; omega
      · have he : x.tmod 10 = (d : Int) := by omega
        simp (disch := omega) only [go_sem, Nat.reduceEqDiff, Nat.reduceAdd, Nat.reduceMul, Nat.reduceSub, Nat.reduceLeDiff, ↓reduceIte, reduceCtorEq, Int.reduceAdd, Int.reduceSub, Int.reduceMul, Int.reduceNeg, Int.reduceToNat, List.reduceReplicate, String.reduceEq, e0, e4, e3, hw, he, hw3]
        intro r hr; dsimp only at hr
        have hl2 : 1 + s.length ≤ 9223372036854775807 := by omega
        simp (disch := omega) only [go_sem, Nat.reduceEqDiff, Nat.reduceAdd, Nat.reduceMul, Nat.reduceSub, Nat.reduceLeDiff, ↓reduceIte, reduceCtorEq, Int.reduceAdd, Int.reduceSub, Int.reduceMul, Int.reduceNeg, Int.reduceToNat, List.reduceReplicate, String.reduceEq, hw3, ho, Option.bind_some, e0, e3, e4, hw, List.length_cons, List.length_nil]
        refine ⟨x.tdiv 10, _, GhostS.drop _ r, ?_, by omega⟩
        simp (disch := omega) only [go_sem, Nat.reduceEqDiff, Nat.reduceAdd, Nat.reduceMul, Nat.reduceSub, Nat.reduceLeDiff, ↓reduceIte, reduceCtorEq, Int.reduceAdd, Int.reduceSub, Int.reduceMul, Int.reduceNeg, Int.reduceToNat, List.reduceReplicate, String.reduceEq, hw3, ho, Option.bind_some, e0, e3, e4, hw, List.length_cons, List.length_nil]
        refine ⟨upd_self hr, _, rfl, ?_, ?_⟩
        · rw [hs, hz, hq, List.append_assoc, show (48 + (d : Int)).toNat = 48 + d by omega]; rfl
        · simp only [List.length_cons, List.length_nil] at hlen ⊢; omega
end Go.Dl

-- Chapter 35: the reference's text of an act.
namespace Go.Dl
open Go Go.Proofs
set_option maxRecDepth 10000

def dWords : List DVal := (kindT.drop 1).map fun x => .str x.1
theorem dWords_length : dWords.length = 27 := rfl
theorem dWords_at (k : Int) (h0 : 1 ≤ k) (h1 : k < 28) : dWords[(k - 1).toNat]? = some (.str (kindAt k).1) := by
  have h : (k - 1).toNat + 1 < kindT.length := by rw [kindT_length]; omega
  have e : kindAt k = kindT[(k - 1).toNat + 1] := by
    simp only [kindAt, List.getD]
    rw [show k.toNat = (k - 1).toNat + 1 by omega, List.getElem?_eq_getElem h]; rfl
  rw [dWords, List.getElem?_map, List.getElem?_drop, Nat.add_comm, List.getElem?_eq_getElem h, e]
  rfl

theorem words_spec (G : Nat → DVal) (H : DHeap) : DCalls Tryd.prog G 59 [] H (DRet (.vslice dWords 27) H) := by
  refine dcalls_intro Tryd.func59 Tryd.call59 rfl (by kernel_rfl) ?_
  simp (disch := omega) only [go_sem, Nat.reduceEqDiff, Nat.reduceAdd, Nat.reduceMul, Nat.reduceSub, Nat.reduceLeDiff, ↓reduceIte, reduceCtorEq, Int.reduceAdd, Int.reduceSub, Int.reduceMul, Int.reduceNeg, Int.reduceToNat, List.reduceReplicate, String.reduceEq]
  intro r hr; dsimp only at hr
  simp (disch := omega) only [go_sem, Nat.reduceEqDiff, Nat.reduceAdd, Nat.reduceMul, Nat.reduceSub, Nat.reduceLeDiff, ↓reduceIte, reduceCtorEq, Int.reduceAdd, Int.reduceSub, Int.reduceMul, Int.reduceNeg, Int.reduceToNat, List.reduceReplicate, String.reduceEq]
  exact OwnA.fin (e := 9) (size := 1) (n := 27) (cs := dWords) (.inr ⟨r, hr, rfl, rfl, rfl⟩) ⟨rfl, rfl⟩

theorem itoa_len {n : Int} (h : I64 n) : (Lib.itoa n).length ≤ 21 := by
  have h1 := h.1
  have h2 := h.2
  unfold Lib.itoa
  split
  · rw [List.length_cons, Lib.decDigits_length]
    have := Lib.nDigits_le20 n.natAbs (by omega)
    omega
  · rw [Lib.decDigits_length]
    have := Lib.nDigits_le20 n.toNat (by omega)
    omega
theorem word_len (k : Int) : (kindAt k).1.length ≤ 10 := by
  unfold kindAt
  generalize k.toNat = i
  rcases Nat.lt_or_ge i 28 with h | h
  · have : ∀ j : Fin 28, (kindT.getD j.val ([], 0)).1.length ≤ 10 := by decide
    exact this ⟨i, h⟩
  · rw [List.getD, List.getElem?_eq_none (by rw [kindT_length]; omega)]; simp

/-- The numbers behind the word. -/
def numsT (x : Act) (m : Nat) : List UInt8 := (([x.a, x.b, x.n].take m).map fun v => 32 :: Lib.itoa v).flatten
def headT (x : Act) : List UInt8 := Lib.itoa x.time ++ [32] ++ Lib.itoa x.task ++ [32] ++ (kindAt x.kind).1
/-- An act's text, without the line feed. -/
def oneT (x : Act) : List UInt8 := headT x ++ numsT x (kindAt x.kind).2
theorem numsT_succ (x : Act) (i : Nat) (v : Int) (h : [x.a, x.b, x.n][i]? = some v) : numsT x (i + 1) = numsT x i ++ (32 :: Lib.itoa v) := by
  simp only [numsT, List.take_add_one, h, Option.toList_some, List.map_append, List.flatten_append]
  simp
theorem abn_w {x : Act} (hx : ActW x) {v : Int} (h : v ∈ [x.a, x.b, x.n]) : I64 v := by
  obtain ⟨_, _, _, _, h1, h2, h3⟩ := hx
  simp only [List.mem_cons, List.not_mem_nil, or_false] at h
  rcases h with rfl | rfl | rfl <;> assumption
theorem numsT_len {x : Act} (hx : ActW x) : ∀ m, (numsT x m).length ≤ 22 * m := by
  intro m
  induction m with
  | zero => simp [numsT]
  | succ m ih =>
    cases h : [x.a, x.b, x.n][m]? with
    | none =>
      have : numsT x (m + 1) = numsT x m := by simp only [numsT, List.take_add_one, h, Option.toList_none, List.append_nil]
      rw [this]; omega
    | some v =>
      rw [numsT_succ x m v h, List.length_append, List.length_cons]
      have := itoa_len (abn_w hx (List.mem_of_getElem? h))
      omega
theorem headT_len {x : Act} (hx : ActW x) : (headT x).length ≤ 60 := by
  have h1 := itoa_len hx.2.2.1
  have h2 := itoa_len hx.2.2.2.1
  have h3 := word_len x.kind
  simp only [headT, List.length_append, List.length_cons, List.length_nil]
  omega

theorem one_spec (G : Nat → DVal) (H : DHeap) (x : Act) (hx : ActW x) (hk : 1 ≤ x.kind ∧ x.kind < 28) : DCalls Tryd.prog G 37 [.agg (dAct x)] H (DRet (.str (oneT x)) H) := by
  obtain ⟨w0, w1, wt, wk, wa, wb, wn⟩ := id hx
  have l1 := itoa_len wt
  have l2 := itoa_len wk
  have l3 := word_len x.kind
  have hw := dWords_at x.kind hk.1 hk.2
  have hkw : IntKind.u8.wrap (x.kind - 1) = x.kind - 1 := by rw [IntKind.wrap_u8]; omega
  have hm := kindAt_le x.kind
  refine dcalls_intro Tryd.func37 Tryd.call37 rfl (by kernel_rfl) ?_
  simp (disch := omega) only [go_sem, Nat.reduceEqDiff, Nat.reduceAdd, Nat.reduceMul, Nat.reduceSub, Nat.reduceLeDiff, ↓reduceIte, reduceCtorEq, Int.reduceAdd, Int.reduceSub, Int.reduceMul, Int.reduceNeg, Int.reduceToNat, List.reduceReplicate, String.reduceEq, dAct, DVal.cells]
  intro r hr; dsimp only at hr
  simp (disch := omega) only [go_sem, Nat.reduceEqDiff, Nat.reduceAdd, Nat.reduceMul, Nat.reduceSub, Nat.reduceLeDiff, ↓reduceIte, reduceCtorEq, Int.reduceAdd, Int.reduceSub, Int.reduceMul, Int.reduceNeg, Int.reduceToNat, List.reduceReplicate, String.reduceEq]
  refine dwp_draws (by kernel_rfl) (.take 0 (.take 1 (.take 4 (.take 5 (.take 10 (.take 11 (.take 12 (.go 2 [11, 5] (.take 3 (.go 6 [11, 1] (.take 7 (.take 8 (.go 9 [11, 5, 1] (.take 13 (.take 14 (.take 15 (.take 16 .done))))))))))))))))) (by kernel_rfl) ?_
  simp (disch := omega) only [go_sem, Nat.reduceEqDiff, Nat.reduceAdd, Nat.reduceMul, Nat.reduceSub, Nat.reduceLeDiff, ↓reduceIte, reduceCtorEq, Int.reduceAdd, Int.reduceSub, Int.reduceMul, Int.reduceNeg, Int.reduceToNat, List.reduceReplicate, String.reduceEq, hkw]
  refine (number_spec G _ x.time wt.1 wt.2).mono ?_
  rintro _ H ⟨rfl, rfl⟩
  simp (disch := omega) only [go_sem, Nat.reduceEqDiff, Nat.reduceAdd, Nat.reduceMul, Nat.reduceSub, Nat.reduceLeDiff, ↓reduceIte, reduceCtorEq, Int.reduceAdd, Int.reduceSub, Int.reduceMul, Int.reduceNeg, Int.reduceToNat, List.reduceReplicate, String.reduceEq]
  refine (number_spec G _ x.task wk.1 wk.2).mono ?_
  rintro _ H ⟨rfl, rfl⟩
  simp (disch := omega) only [go_sem, Nat.reduceEqDiff, Nat.reduceAdd, Nat.reduceMul, Nat.reduceSub, Nat.reduceLeDiff, ↓reduceIte, reduceCtorEq, Int.reduceAdd, Int.reduceSub, Int.reduceMul, Int.reduceNeg, Int.reduceToNat, List.reduceReplicate, String.reduceEq, List.length_append, List.length_cons, List.length_nil, Nat.reduceLT]
  refine (words_spec G _).mono ?_
  rintro _ H ⟨rfl, rfl⟩
  simp (disch := omega) only [go_sem, Nat.reduceEqDiff, Nat.reduceAdd, Nat.reduceMul, Nat.reduceSub, Nat.reduceLeDiff, ↓reduceIte, reduceCtorEq, Int.reduceAdd, Int.reduceSub, Int.reduceMul, Int.reduceNeg, Int.reduceToNat, List.reduceReplicate, String.reduceEq, hw, hkw, dWords_length, List.length_append, List.length_cons, List.length_nil, Nat.reduceLT]
  intro r2 hr2; dsimp only at hr2
  rw [upd_eq_none] at hr2
  have e1 : ¬ r = r2 := fun e => hr2.1 e.symm
  have e2 : ¬ r2 = r := hr2.1
  simp (disch := omega) only [go_sem, Nat.reduceEqDiff, Nat.reduceAdd, Nat.reduceMul, Nat.reduceSub, Nat.reduceLeDiff, ↓reduceIte, reduceCtorEq, Int.reduceAdd, Int.reduceSub, Int.reduceMul, Int.reduceNeg, Int.reduceToNat, List.reduceReplicate, String.reduceEq, e1, e2]
  refine DLoop.run (fun (i : Nat) env heap => heap = upd (upd H r (some (.cells (dAct x) 37))) r2 (some (.cells [dI x.a, dI x.b, dI x.n] 2)) ∧ env 1 = .optr r 0 ∧ env 3 = .str (headT x ++ numsT x i) ∧ env 4 = .oslice 1 r2 0 3 3 ∧ env 5 = dI i ∧ i ≤ (kindAt x.kind).2) (fun i => (kindAt x.kind).2 - i) 0 ?_ ?_
  · simp (disch := omega) only [go_sem, Nat.reduceEqDiff, Nat.reduceAdd, Nat.reduceMul, Nat.reduceSub, Nat.reduceLeDiff, ↓reduceIte, reduceCtorEq, Int.reduceAdd, Int.reduceSub, Int.reduceMul, Int.reduceNeg, Int.reduceToNat, List.reduceReplicate, String.reduceEq, e1, e2]
    (repeat' apply And.intro) <;> (try first | rfl | assumption | omega)
    simp [headT, numsT]
  · rintro i env heap ⟨rfl, h1, h3, h4, h5, hi⟩
    simp (disch := omega) only [go_sem, Nat.reduceEqDiff, Nat.reduceAdd, Nat.reduceMul, Nat.reduceSub, Nat.reduceLeDiff, ↓reduceIte, reduceCtorEq, Int.reduceAdd, Int.reduceSub, Int.reduceMul, Int.reduceNeg, Int.reduceToNat, List.reduceReplicate, String.reduceEq, h1, h3, h4, h5, e1, e2, dAct]
    refine (uses_spec G _ x.kind w0 w1).mono ?_
    rintro _ H ⟨rfl, rfl⟩
    have hu : usesK x.kind = (kindAt x.kind).2 := by rw [usesK, if_pos hk]
    rw [hu]
    by_cases hlt : i < (kindAt x.kind).2
    · obtain ⟨v, hv⟩ : ∃ v, [x.a, x.b, x.n][i]? = some v := ⟨_, List.getElem?_eq_getElem (by simp; omega)⟩
      have hvd : [dI x.a, dI x.b, dI x.n][i]? = some (dI v) := by
        have : [dI x.a, dI x.b, dI x.n] = [x.a, x.b, x.n].map dI := rfl
        rw [this, List.getElem?_map, hv]; rfl
      have hvw := abn_w hx (List.mem_of_getElem? hv)
      have hl1 := headT_len hx
      have hl2 := numsT_len hx i
      simp (disch := omega) only [go_sem, Nat.reduceEqDiff, Nat.reduceAdd, Nat.reduceMul, Nat.reduceSub, Nat.reduceLeDiff, ↓reduceIte, reduceCtorEq, Int.reduceAdd, Int.reduceSub, Int.reduceMul, Int.reduceNeg, Int.reduceToNat, List.reduceReplicate, String.reduceEq, h1, h3, h4, h5, e1, e2, hvd, List.length_append, List.length_cons, List.length_nil]
      refine (number_spec G _ v hvw.1 hvw.2).mono ?_
      rintro _ H ⟨rfl, rfl⟩
      have hl3 := itoa_len hvw
      simp (disch := omega) only [go_sem, Nat.reduceEqDiff, Nat.reduceAdd, Nat.reduceMul, Nat.reduceSub, Nat.reduceLeDiff, ↓reduceIte, reduceCtorEq, Int.reduceAdd, Int.reduceSub, Int.reduceMul, Int.reduceNeg, Int.reduceToNat, List.reduceReplicate, String.reduceEq, h1, h3, h4, h5, e1, e2, hvd, List.length_append, List.length_cons, List.length_nil]
      refine ⟨i + 1, _, GhostS.refl _, ?_, by omega⟩
      simp (disch := omega) only [go_sem, Nat.reduceEqDiff, Nat.reduceAdd, Nat.reduceMul, Nat.reduceSub, Nat.reduceLeDiff, ↓reduceIte, reduceCtorEq, Int.reduceAdd, Int.reduceSub, Int.reduceMul, Int.reduceNeg, Int.reduceToNat, List.reduceReplicate, String.reduceEq, h1, h3, h4, h5, e1, e2]
      (repeat' apply And.intro) <;> (try first | rfl | assumption | omega)
      rw [numsT_succ x i v hv]; simp
    · simp (disch := omega) only [go_sem, Nat.reduceEqDiff, Nat.reduceAdd, Nat.reduceMul, Nat.reduceSub, Nat.reduceLeDiff, ↓reduceIte, reduceCtorEq, Int.reduceAdd, Int.reduceSub, Int.reduceMul, Int.reduceNeg, Int.reduceToNat, List.reduceReplicate, String.reduceEq, h1, h3, h4, h5, e1, e2]
      have : i = (kindAt x.kind).2 := by omega
      subst this
      exact DFin.dropA r2 (by simp [upd, e2, hr2.2.2]) (DFin.dropA r hr (DFin.refl ⟨rfl, rfl⟩))
end Go.Dl

-- THE DATA LEVEL, PART J: slices that are built up beside other memory of the call's own that nobody asks for any more.
namespace Go.Dl
open Go Go.RowKit

theorem lasts_h0 (H : DHeap) (w : World) : Lasts H w h0 w := lasts_sub (fun r o h => by cases h) w
/-- Whatever block H has, H' has. -/
def Sub (H H' : DHeap) : Prop := ∀ r o, H r = some o → H' r = some o
theorem Sub.refl (H : DHeap) : Sub H H := fun _ _ h => h
theorem Sub.trans {H H' H'' : DHeap} (h : Sub H H') (k : Sub H' H'') : Sub H H'' := fun r o x => k r o (h r o x)
theorem Sub.lo {H H' : DHeap} (h : Sub H H') {r : Nat} (hr : H' r = none) : H r = none := by
  cases e : H r with
  | none => rfl
  | some o => rw [h r o e] at hr; cases hr
theorem Sub.up {H H' : DHeap} (h : Sub H H') {r : Nat} (hr : H r = none) (x : Option DObj) : Sub H (upd H' r x) := fun b o hb => by
  have : b ≠ r := fun e => by rw [e, hr] at hb; cases hb
  simp only [upd, if_neg this]; exact h b o hb
theorem Sub.new {H H' : DHeap} (h : Sub H H') {r : Nat} (hr : H' r = none) (x : Option DObj) : Sub H (upd H' r x) := h.up (h.lo hr) x
theorem Sub.both {H H' : DHeap} (h : Sub H H') (r : Nat) (x : Option DObj) : Sub (upd H r x) (upd H' r x) := fun b o hb => by
  simp only [upd] at hb ⊢; split <;> rename_i e
  · rwa [if_pos e] at hb
  · rw [if_neg e] at hb; exact h b o hb

/-- v is nil, or a slice over a whole block of the call's own; the blocks of H are there; there may be others. -/
def OwnJ (H : DHeap) (e : TypeId) (size n : Nat) (cs : List DVal) (v : DVal) (H' : DHeap) : Prop :=
  (n = 0 ∧ cs = [] ∧ v = .nilSlice ∧ Sub H H') ∨ ∃ r, H r = none ∧ cs.length = n * size ∧ v = .oslice size r 0 n n ∧ H' r = some (.cells cs e) ∧ Sub H H'

section
variable {P : Program} {G : Nat → DVal} {H H' : DHeap} {e : TypeId} {size n : Nat} {cs : List DVal} {v : DVal}

theorem OwnJ.nil (e : TypeId) (size : Nat) (h : Sub H H') : OwnJ H e size 0 [] .nilSlice H' := .inl ⟨rfl, rfl, rfl, h⟩
theorem OwnA.j (h : OwnA H e size n cs v H') : OwnJ H e size n cs v H' := by
  rcases h with ⟨a, b, c, rfl⟩ | ⟨r, a, b, c, rfl⟩
  · exact .inl ⟨a, b, c, .refl _⟩
  · exact .inr ⟨r, a, b, c, upd_same _ _ _, (Sub.refl H).up a _⟩
theorem OwnJ.sub (h : OwnJ H e size n cs v H') : Sub H H' := by
  rcases h with ⟨_, _, _, h⟩ | ⟨_, _, _, _, _, h⟩ <;> exact h
theorem OwnJ.keep (h : OwnJ H e size n cs v H') {r : Nat} {o : DObj} (hr : H r = some o) : H' r = some o := h.sub r o hr
theorem OwnJ.more (h : OwnJ H e size n cs v H') {H2 : DHeap} (k : Sub H' H2) : OwnJ H e size n cs v H2 := by
  rcases h with ⟨a, b, c, d⟩ | ⟨r, a, b, c, d, f⟩
  · exact .inl ⟨a, b, c, d.trans k⟩
  · exact .inr ⟨r, a, b, c, k _ _ d, f.trans k⟩
theorem OwnJ.new (h : OwnJ H e size n cs v H') {r : Nat} (hr : H' r = none) (x : Option DObj) : OwnJ H e size n cs v (upd H' r x) := h.more ((Sub.refl H').up hr x)
theorem OwnJ.less (h : OwnJ H e size n cs v H') {H1 : DHeap} (k : Sub H1 H) : OwnJ H1 e size n cs v H' := by
  rcases h with ⟨a, b, c, d⟩ | ⟨r, a, b, c, d, f⟩
  · exact .inl ⟨a, b, c, k.trans d⟩
  · exact .inr ⟨r, k.lo a, b, c, d, k.trans f⟩
theorem OwnJ.frame (h : OwnJ H e size n cs v H') {r : Nat} (hr : H' r = none) (o : DObj) : OwnJ (upd H r (some o)) e size n cs v (upd H' r (some o)) := by
  rcases h with ⟨a, b, c, d⟩ | ⟨r0, a, b, c, d, f⟩
  · exact .inl ⟨a, b, c, d.both _ _⟩
  · have : r0 ≠ r := fun e => by rw [e, hr] at d; cases d
    exact .inr ⟨r0, by simp [upd, this, a], b, c, by simp [upd, this, d], f.both _ _⟩
theorem OwnJ.exact (h : OwnJ H e size n cs v H') : ∃ H1, OwnA H e size n cs v H1 ∧ Sub H1 H' := by
  rcases h with ⟨a, b, c, d⟩ | ⟨r, a, b, c, d, f⟩
  · exact ⟨H, .inl ⟨a, b, c, rfl⟩, d⟩
  · refine ⟨_, .inr ⟨r, a, b, c, rfl⟩, fun k o hk => ?_⟩
    simp only [upd] at hk
    split at hk
    · rename_i e; subst e; cases hk; exact d
    · exact f k o hk

theorem OwnJ.append {m bytes : Nat} {news : List DVal} {dst : Option Nat} {K : DK} {env : Nat → DVal} (hv : OwnJ H e size n cs v H') (hm : news.length = m * size) (hb : (n + m) * bytes ≤ 35184372088832)
    (hK : ∀ v' H2, OwnJ H e size (n + m) (cs ++ news) v' H2 → K ⟨updO env dst v', H2⟩) : dAppendTo e size bytes m news dst v K ⟨env, H'⟩ := by
  rcases hv with ⟨rfl, rfl, rfl, hs⟩ | ⟨r, hr, hl, rfl, hc, hs⟩
  · simp only [dAppendTo]
    refine ⟨fun h0 => ?_, fun h0 => ⟨by simpa using hb, fun r hr => ?_⟩⟩
    · subst h0
      have : news = [] := List.length_eq_zero_iff.1 (by omega)
      subst this
      exact hK _ _ (.inl ⟨rfl, rfl, rfl, hs⟩)
    · refine hK _ _ (.inr ⟨r, hs.lo hr, by simpa using hm, by simp, by rw [List.nil_append]; exact upd_same _ _ _, hs.new hr _⟩)
  · simp only [dAppendTo, true_and]
    rw [hc]
    by_cases h0 : m = 0
    · subst h0
      have : news = [] := List.length_eq_zero_iff.1 (by omega)
      subst this
      rw [dAppendO_in (by omega)]
      refine ⟨by simp [hl], ?_⟩
      have := hK (.oslice size r 0 (n + 0) n) H' (.inr ⟨r, hr, by simpa using hl, by simp, by simpa using hc, hs⟩)
      simp only [splice, List.length_nil, List.append_nil, Nat.add_zero, List.take_append_drop]
      rw [upd_self hc]
      simpa using this
    · rw [dAppendO_out (by omega)]
      refine ⟨by omega, hb, fun r' hr' => ?_⟩
      dsimp only at hr' ⊢
      by_cases e1 : r' = r
      · subst e1
        refine hK _ _ (.inr ⟨r', hr, ?_, rfl, ?_, ?_⟩)
        · simp [hl, hm, Nat.add_mul]
        · rw [upd_same, List.take_of_length_le (by omega)]
        · exact (hs.up hr _).up hr _
      · have hr2 : H' r' = none := by simpa [upd, e1] using hr'
        refine hK _ _ (.inr ⟨r', hs.lo hr2, ?_, rfl, ?_, ?_⟩)
        · simp [hl, hm, Nat.add_mul]
        · rw [upd_same, List.take_of_length_le (by omega)]
        · exact (hs.up hr _).up (hs.lo hr2) _

theorem OwnJ.appendO {r m bytes : Nat} {news : List DVal} {dst : Option Nat} {K : DK} {env : Nat → DVal} (hv : OwnJ H e size n cs (.oslice size r 0 n n) H') (hm : news.length = m * size) (hb : (n + m) * bytes ≤ 35184372088832)
    (hK : ∀ v' H2, OwnJ H e size (n + m) (cs ++ news) v' H2 → K ⟨updO env dst v', H2⟩) : dAppendO e size bytes r 0 n n m news dst K ⟨env, H'⟩ (some (.cells cs e)) := by
  have h := OwnJ.append hv hm hb hK
  have hc : H' r = some (.cells cs e) := by
    rcases hv with ⟨_, _, h, _⟩ | ⟨r', _, _, h, hc, _⟩
    · cases h
    · cases h; exact hc
  simp only [dAppendTo, true_and, hc] at h
  exact h

theorem OwnJ.ghost (hv : OwnJ H e size n cs v H') : GhostE H' v H (.vslice cs n) := by
  obtain ⟨H1, h1, h2⟩ := hv.exact
  exact (GhostE.sub h2 v).trans h1.ghost
theorem OwnJ.fin {R : DEnd → DHeap → Prop} (hv : OwnJ H e size n cs v H') (h : R (.ret (.vslice cs n)) H) : DFin R v H' := .ghost hv.ghost (.refl h)
theorem DCalls.frozenJ {f : FuncId} {args : List DVal} (h : DCalls P G f args H fun x H' => ∃ v, x = .ret v ∧ OwnJ H e size n cs v H') : DCalls P G f args H (DRet (.vslice cs n) H) :=
  h.ghost fun x H' ⟨v, h1, h2⟩ => ⟨v, _, H, h1, h2.ghost, rfl, rfl⟩
theorem DCalls.preSub {f : FuncId} {args : List DVal} {R : DEnd → DHeap → Prop} (k : Sub H H') (h : DCalls P G f args H R) : DCalls P G f args H' R := DCalls.pre (GhostE.sub k _) h
/-- A slot's slice is seen as memory that lasts. -/
theorem GhostS.fzSlot {env : Nat → DVal} {k : Nat} (hv : OwnJ H e size n cs (env k) H') : GhostS G ⟨env, H'⟩ ⟨upd env k (.vslice cs n), H⟩ := fun w hH hG => by
  obtain ⟨h1, h2, h3⟩ := hv.ghost w hH
  refine ⟨h1, h2, hG.lasts (lasts_sub hv.sub w), fun i x hx => ?_⟩
  by_cases e : i = k
  · subst e; simp only [upd_same]; exact h3 x hx
  · simp only [upd, if_neg e]; exact Rel.lasts (lasts_sub hv.sub w) _ _ hx
theorem DLoop.runG {body : (DExit → DS → Prop) → DK} {Q : DExit → DS → Prop} {s : DS} {ι : Type} (I : ι → (Nat → DVal) → DHeap → Prop) (μ : ι → Nat) (i : ι) (s0 : DS) (hg : GhostS G s s0) (h0 : I i s0.env s0.heap)
    (hr : ∀ i env heap, I i env heap → body (DSeqQ (fun s1 => ∃ j s2, GhostS G s1 s2 ∧ I j s2.env s2.heap ∧ μ j < μ i) Q) ⟨env, heap⟩) : DLoop G body Q s :=
  ⟨ι, fun i s => I i s.env s.heap, μ, ⟨i, s0, hg, h0⟩, fun i s h => hr i s.env s.heap h⟩
theorem OwnJ.cell1 (h : OwnJ H e size n cs v H') : v.cells = [v] ∧ v.one = true := by
  rcases h with ⟨_, _, rfl, _⟩ | ⟨_, _, _, rfl, _⟩ <;> exact ⟨rfl, rfl⟩
end
end Go.Dl

-- Chapter 35: put.
namespace Go.Dl
open Go Go.Proofs
set_option maxRecDepth 10000

attribute [go_sem] all_dBs map_dB dBs_length
/-- A slice of bytes that is being built, beside other memory. -/
def OBJ (H : DHeap) (l : List UInt8) (v : DVal) (H' : DHeap) : Prop := OwnJ H 5 1 l.length (dBs l) v H'
theorem OBJ.app {H H0 : DHeap} {l m : List UInt8} {v : DVal} {dst : Option Nat} {K : DK} {env : Nat → DVal} (hv : OBJ H l v H0) (hb : l.length + m.length ≤ 35184372088832)
    (hK : ∀ v' H', OBJ H (l ++ m) v' H' → K ⟨updO env dst v', H'⟩) : dAppendTo 5 1 1 m.length (dBs m) dst v K ⟨env, H0⟩ := by
  refine OwnJ.append hv (by simp [dBs_length]) (by omega) fun v' H' h' => hK v' H' ?_
  unfold OBJ
  simpa [dBs] using h'
theorem appendIntJ {G : Nat → DVal} {H H0 : DHeap} (hG : G 4 = .vptr dPow 0) {l : List UInt8} {v : DVal} (n : Int) (h : I64 n) (hl : l.length ≤ 17592186044400) (hv : OBJ H0 l v H) :
    DCalls Tryd.prog G 57 [v, .int .i64 n, .int .i64 10] H fun e H' => ∃ v', e = .ret v' ∧ OBJ H0 (l ++ Lib.itoa n) v' H' := by
  obtain ⟨H1, h1, h2⟩ := OwnJ.exact hv
  exact ((appendInt_spec hG n h.1 h.2 hl h1).mono fun e H' ⟨v', h3, h4⟩ => ⟨v', h3, OwnA.j h4⟩).preSub h2

/-- An act's line. -/
def lineT (x : Act) : List UInt8 := oneT x ++ [10]
theorem oneT_len {x : Act} (hx : ActW x) : (oneT x).length ≤ 130 := by
  have h1 := headT_len hx
  have h2 := numsT_len hx (kindAt x.kind).2
  have h3 := kindAt_le x.kind
  rw [oneT, List.length_append]; omega

theorem put_spec {G : Nat → DVal} {H H0 : DHeap} (hG : G 0 = .vptr dKinds 0) (hG4 : G 4 = .vptr dPow 0) {l : List UInt8} {v : DVal} (x : Act) (hx : ActW x) (hk : 1 ≤ x.kind ∧ x.kind < 28) (hl : l.length ≤ 17592186044000) (hv : OBJ H0 l v H) :
    DCalls Tryd.prog G 36 [v, .agg (dAct x)] H fun e H' => ∃ v', e = .ret v' ∧ OBJ H0 (l ++ lineT x) v' H' := by
  obtain ⟨w0, w1, wt, wk, wa, wb, wn⟩ := id hx
  have l1 := itoa_len wt
  have l2 := itoa_len wk
  have l3 := word_len x.kind
  obtain ⟨k1, k2⟩ := dKinds_at x.kind w0 (by omega)
  have hm := kindAt_le x.kind
  have hkd : (dKinds.drop (x.kind.toNat * 2)).take 2 = dKind (kindAt x.kind) := by
    have h : x.kind.toNat < kindT.length := by rw [kindT_length]; omega
    have := flat_el dKind_length kindT x.kind.toNat h
    rwa [show kindT[x.kind.toNat] = kindAt x.kind by simp [kindAt, List.getD, List.getElem?_eq_getElem h]] at this
  refine dcalls_intro Tryd.func36 Tryd.call36 rfl (by kernel_rfl) ?_
  simp (disch := omega) only [go_sem, Nat.reduceEqDiff, Nat.reduceAdd, Nat.reduceMul, Nat.reduceSub, Nat.reduceLeDiff, ↓reduceIte, reduceCtorEq, Int.reduceAdd, Int.reduceSub, Int.reduceMul, Int.reduceNeg, Int.reduceToNat, List.reduceReplicate, String.reduceEq, dAct, DVal.cells]
  intro r hr; dsimp only at hr
  have hv1 := OwnJ.frame hv hr (.cells (dAct x) 37)
  simp (disch := omega) only [go_sem, Nat.reduceEqDiff, Nat.reduceAdd, Nat.reduceMul, Nat.reduceSub, Nat.reduceLeDiff, ↓reduceIte, reduceCtorEq, Int.reduceAdd, Int.reduceSub, Int.reduceMul, Int.reduceNeg, Int.reduceToNat, List.reduceReplicate, String.reduceEq]
  refine (appendIntJ hG4 x.time wt (by omega) hv1).mono ?_
  rintro _ H1 ⟨v1, rfl, hv2⟩
  have hk1 := OwnJ.keep hv2 (upd_same _ _ _)
  simp (disch := omega) only [go_sem, Nat.reduceEqDiff, Nat.reduceAdd, Nat.reduceMul, Nat.reduceSub, Nat.reduceLeDiff, ↓reduceIte, reduceCtorEq, Int.reduceAdd, Int.reduceSub, Int.reduceMul, Int.reduceNeg, Int.reduceToNat, List.reduceReplicate, String.reduceEq, hk1, dAct]
  refine dwp_draws (by kernel_rfl) (.take 0 (.take 3 (.take 4 (.go 1 [4] (.go 2 [4] (.go 5 [] (.take 6 .done))))))) (by kernel_rfl) ?_
  simp (disch := omega) only [go_sem, Nat.reduceEqDiff, Nat.reduceAdd, Nat.reduceMul, Nat.reduceSub, Nat.reduceLeDiff, ↓reduceIte, reduceCtorEq, Int.reduceAdd, Int.reduceSub, Int.reduceMul, Int.reduceNeg, Int.reduceToNat, List.reduceReplicate, String.reduceEq, hk1, dAct]
  intro r2 hr2; dsimp only at hr2
  have e1 : ¬ r = r2 := fun e => by subst e; rw [hk1] at hr2; cases hr2
  simp (disch := omega) only [go_sem, Nat.reduceEqDiff, Nat.reduceAdd, Nat.reduceMul, Nat.reduceSub, Nat.reduceLeDiff, ↓reduceIte, reduceCtorEq, Int.reduceAdd, Int.reduceSub, Int.reduceMul, Int.reduceNeg, Int.reduceToNat, List.reduceReplicate, String.reduceEq, hk1, dAct, e1]
  refine OBJ.app (m := [32]) (OwnJ.new hv2 hr2 _) (by simp; omega) fun v2 H2 hv4 => ?_
  have hk2 := OwnJ.keep hv4 (upd_same _ _ _)
  simp (disch := omega) only [go_sem, Nat.reduceEqDiff, Nat.reduceAdd, Nat.reduceMul, Nat.reduceSub, Nat.reduceLeDiff, ↓reduceIte, reduceCtorEq, Int.reduceAdd, Int.reduceSub, Int.reduceMul, Int.reduceNeg, Int.reduceToNat, List.reduceReplicate, String.reduceEq, hk1, hk2, e1, dAct]
  refine (appendIntJ hG4 x.task wk (by simp; omega) hv4).mono ?_
  rintro _ H3 ⟨v3, rfl, hv5⟩
  have hk3 := OwnJ.keep hv5 (upd_same _ _ _)
  simp (disch := omega) only [go_sem, Nat.reduceEqDiff, Nat.reduceAdd, Nat.reduceMul, Nat.reduceSub, Nat.reduceLeDiff, ↓reduceIte, reduceCtorEq, Int.reduceAdd, Int.reduceSub, Int.reduceMul, Int.reduceNeg, Int.reduceToNat, List.reduceReplicate, String.reduceEq, hk3, hG, dAct, k1, k2, dKinds_length]
  intro r5 hr5; dsimp only at hr5
  have e3 : ¬ r = r5 := fun e => by subst e; rw [hk3] at hr5; cases hr5
  have e4 : ¬ r5 = r := fun e => e3 e.symm
  simp (disch := omega) only [go_sem, Nat.reduceEqDiff, Nat.reduceAdd, Nat.reduceMul, Nat.reduceSub, Nat.reduceLeDiff, ↓reduceIte, reduceCtorEq, Int.reduceAdd, Int.reduceSub, Int.reduceMul, Int.reduceNeg, Int.reduceToNat, List.reduceReplicate, String.reduceEq, hk3, hG, dAct, k1, k2, dKinds_length, e3, e4, hkd, dKind, DVal.cells]
  have hv6 := OwnJ.frame hv5 hr5 (.cells (dKind (kindAt x.kind)) 89)
  refine dwp_draws (by kernel_rfl) (.take 0 (.take 3 (.take 4 (.go 1 [4] (.go 2 [4] (.go 5 [] (.take 6 .done))))))) (by kernel_rfl) ?_
  simp (disch := omega) only [go_sem, Nat.reduceEqDiff, Nat.reduceAdd, Nat.reduceMul, Nat.reduceSub, Nat.reduceLeDiff, ↓reduceIte, reduceCtorEq, Int.reduceAdd, Int.reduceSub, Int.reduceMul, Int.reduceNeg, Int.reduceToNat, List.reduceReplicate, String.reduceEq, hk3, dAct, e3, e4]
  intro r6 hr6; dsimp only at hr6
  rw [upd_eq_none] at hr6
  simp (disch := omega) only [go_sem, Nat.reduceEqDiff, Nat.reduceAdd, Nat.reduceMul, Nat.reduceSub, Nat.reduceLeDiff, ↓reduceIte, reduceCtorEq, Int.reduceAdd, Int.reduceSub, Int.reduceMul, Int.reduceNeg, Int.reduceToNat, List.reduceReplicate, String.reduceEq, hk3, dAct, e3, e4, hr6]
  have hw7 : (dBs [32] : List DVal) = [DVal.int .u8 32] := rfl
  have hr6' : upd H3 r5 (some (.cells (dKind (kindAt x.kind)) 89)) r6 = none := by rw [upd_eq_none]; exact hr6
  refine OBJ.app (m := [32]) (OwnJ.new hv6 hr6' _) (by simp; omega) fun v4 H4 hv7 => ?_
  have hk4 : H4 r5 = some (.cells (dKind (kindAt x.kind)) 89) := OwnJ.keep hv7 (upd_same _ _ _)
  have hk5 : H4 r = some (.cells (dAct x) 37) := OwnJ.keep hv7 (by simp [upd, e3])
  simp (disch := omega) only [go_sem, Nat.reduceEqDiff, Nat.reduceAdd, Nat.reduceMul, Nat.reduceSub, Nat.reduceLeDiff, ↓reduceIte, reduceCtorEq, Int.reduceAdd, Int.reduceSub, Int.reduceMul, Int.reduceNeg, Int.reduceToNat, List.reduceReplicate, String.reduceEq, hk4, hk5, dKind, hr6]
  refine OBJ.app hv7 (by simp; omega) fun v5 H5 hv8 => ?_
  have hk6 : H5 r5 = some (.cells (dKind (kindAt x.kind)) 89) := OwnJ.keep hv8 (upd_same _ _ _)
  have hk7 : H5 r = some (.cells (dAct x) 37) := OwnJ.keep hv8 (by simp [upd, e3])
  simp (disch := omega) only [go_sem, Nat.reduceEqDiff, Nat.reduceAdd, Nat.reduceMul, Nat.reduceSub, Nat.reduceLeDiff, ↓reduceIte, reduceCtorEq, Int.reduceAdd, Int.reduceSub, Int.reduceMul, Int.reduceNeg, Int.reduceToNat, List.reduceReplicate, String.reduceEq, hk6, hk7, dKind, dAct]
  intro r7 hr7; dsimp only at hr7
  have e5 : ¬ r5 = r7 := fun e => by subst e; rw [hk6] at hr7; cases hr7
  have e6 : ¬ r7 = r5 := fun e => e5 e.symm
  have e7 : ¬ r = r7 := fun e => by subst e; rw [hk7] at hr7; cases hr7
  have e8 : ¬ r7 = r := fun e => e7 e.symm
  have hv9 := OwnJ.frame hv8 hr7 (.cells [dI x.a, dI x.b, dI x.n] 91)
  simp (disch := omega) only [go_sem, Nat.reduceEqDiff, Nat.reduceAdd, Nat.reduceMul, Nat.reduceSub, Nat.reduceLeDiff, ↓reduceIte, reduceCtorEq, Int.reduceAdd, Int.reduceSub, Int.reduceMul, Int.reduceNeg, Int.reduceToNat, List.reduceReplicate, String.reduceEq, hk6, hk7, dKind, dAct, e5, e6, e7, e8, DVal.cells]
  have hh : headT x = Lib.itoa x.time ++ [32] ++ Lib.itoa x.task ++ [32] ++ (kindAt x.kind).1 := rfl
  have hl1 := headT_len hx
  obtain ⟨m, hmm⟩ : ∃ m, (kindAt x.kind).2 = m := ⟨_, rfl⟩
  have ho : oneT x = headT x ++ numsT x m := by rw [oneT, hmm]
  rw [hmm] at hm ⊢
  obtain ⟨I, hI⟩ : ∃ I : Nat → (Nat → DVal) → DHeap → Prop, ∀ i env heap, I i env heap ↔ (env 3 = .optr r 0 ∧ env 38 = .oslice 1 r7 0 m 3 ∧ env 39 = dI m ∧ env 40 = dI i ∧ i ≤ m ∧ heap r7 = some (.cells [dI x.a, dI x.b, dI x.n] 91) ∧ OBJ (upd H0 r7 (some (.cells [dI x.a, dI x.b, dI x.n] 91))) (l ++ (headT x ++ numsT x i)) (env 0) heap) := ⟨_, fun _ _ _ => Iff.rfl⟩
  have hsub : H0 r7 = none := by
    have h1 := (OwnJ.sub hv8).lo hr7
    simp only [upd_eq_none] at h1
    exact h1.2.2.2.2
  have hr7u : H0 r = none := (OwnJ.sub hv).lo hr
  have hr5u : H0 r5 = none := by
    have h1 := (OwnJ.sub hv5).lo hr5
    simp only [upd_eq_none] at h1
    exact h1.2.2
  refine DLoop.run I (fun i => m - i) 0 ((hI _ _ _).2 ?_) ?_
  · simp (disch := omega) only [go_sem, Nat.reduceEqDiff, Nat.reduceAdd, Nat.reduceMul, Nat.reduceSub, Nat.reduceLeDiff, ↓reduceIte, reduceCtorEq, Int.reduceAdd, Int.reduceSub, Int.reduceMul, Int.reduceNeg, Int.reduceToNat, List.reduceReplicate, String.reduceEq]
    (repeat' apply And.intro) <;> (try first | rfl | assumption | omega)
    have h2 : Sub (upd H0 r7 (some (.cells [dI x.a, dI x.b, dI x.n] 91))) (upd (upd (upd H0 r (some (DObj.cells (dAct x) 37))) r5 (some (DObj.cells (dKind (kindAt x.kind)) 89))) r7 (some (.cells [dI x.a, dI x.b, dI x.n] 91))) := (((Sub.refl H0).up hr7u _).up hr5u _).both _ _
    have h3 := OwnJ.less hv9 h2
    simp only [← hh, ← List.append_assoc] at h3 ⊢
    simpa [numsT, OBJ, hh] using h3
  · rintro i env heap hi
    obtain ⟨h3, h38, h39, h40, hi, hc, hv0⟩ := (hI _ _ _).1 hi
    by_cases hlt : i < m
    · obtain ⟨v, hv⟩ : ∃ v, [x.a, x.b, x.n][i]? = some v := ⟨_, List.getElem?_eq_getElem (by simp; omega)⟩
      have hvd : [dI x.a, dI x.b, dI x.n][i]? = some (dI v) := by
        have : [dI x.a, dI x.b, dI x.n] = [x.a, x.b, x.n].map dI := rfl
        rw [this, List.getElem?_map, hv]; rfl
      have hvw := abn_w hx (List.mem_of_getElem? hv)
      have hl2 := numsT_len hx i
      simp (disch := omega) only [go_sem, Nat.reduceEqDiff, Nat.reduceAdd, Nat.reduceMul, Nat.reduceSub, Nat.reduceLeDiff, ↓reduceIte, reduceCtorEq, Int.reduceAdd, Int.reduceSub, Int.reduceMul, Int.reduceNeg, Int.reduceToNat, List.reduceReplicate, String.reduceEq, h3, h38, h39, h40, hc, hvd]
      intro r8 hr8; dsimp only at hr8
      simp (disch := omega) only [go_sem, Nat.reduceEqDiff, Nat.reduceAdd, Nat.reduceMul, Nat.reduceSub, Nat.reduceLeDiff, ↓reduceIte, reduceCtorEq, Int.reduceAdd, Int.reduceSub, Int.reduceMul, Int.reduceNeg, Int.reduceToNat, List.reduceReplicate, String.reduceEq, h3, h38, h39, h40, hc, hvd]
      refine OBJ.app (m := [32]) (OwnJ.new hv0 hr8 _) (by simp; omega) fun v6 H6 hv10 => ?_
      simp (disch := omega) only [go_sem, Nat.reduceEqDiff, Nat.reduceAdd, Nat.reduceMul, Nat.reduceSub, Nat.reduceLeDiff, ↓reduceIte, reduceCtorEq, Int.reduceAdd, Int.reduceSub, Int.reduceMul, Int.reduceNeg, Int.reduceToNat, List.reduceReplicate, String.reduceEq, h3, h38, h39, h40, hc, hvd]
      refine (appendIntJ hG4 v hvw (by simp; omega) hv10).mono ?_
      rintro _ H7 ⟨v7, rfl, hv11⟩
      simp (disch := omega) only [go_sem, Nat.reduceEqDiff, Nat.reduceAdd, Nat.reduceMul, Nat.reduceSub, Nat.reduceLeDiff, ↓reduceIte, reduceCtorEq, Int.reduceAdd, Int.reduceSub, Int.reduceMul, Int.reduceNeg, Int.reduceToNat, List.reduceReplicate, String.reduceEq, h3, h38, h39, h40, hc, hvd]
      refine ⟨i + 1, _, GhostS.refl _, (hI _ _ _).2 ?_, by omega⟩
      simp (disch := omega) only [go_sem, Nat.reduceEqDiff, Nat.reduceAdd, Nat.reduceMul, Nat.reduceSub, Nat.reduceLeDiff, ↓reduceIte, reduceCtorEq, Int.reduceAdd, Int.reduceSub, Int.reduceMul, Int.reduceNeg, Int.reduceToNat, List.reduceReplicate, String.reduceEq, h3, h38, h39, h40]
      (repeat' apply And.intro) <;> (try first | rfl | assumption | omega)
      · exact OwnJ.keep hv11 (upd_same _ _ _)
      · rw [numsT_succ x i v hv]; simpa using hv11
    · simp (disch := omega) only [go_sem, Nat.reduceEqDiff, Nat.reduceAdd, Nat.reduceMul, Nat.reduceSub, Nat.reduceLeDiff, ↓reduceIte, reduceCtorEq, Int.reduceAdd, Int.reduceSub, Int.reduceMul, Int.reduceNeg, Int.reduceToNat, List.reduceReplicate, String.reduceEq, h3, h38, h39, h40]
      have : i = m := by omega
      subst this
      intro r9 hr9; dsimp only at hr9
      simp (disch := omega) only [go_sem, Nat.reduceEqDiff, Nat.reduceAdd, Nat.reduceMul, Nat.reduceSub, Nat.reduceLeDiff, ↓reduceIte, reduceCtorEq, Int.reduceAdd, Int.reduceSub, Int.reduceMul, Int.reduceNeg, Int.reduceToNat, List.reduceReplicate, String.reduceEq]
      refine OBJ.app (m := [10]) (OwnJ.new hv0 hr9 _) (by have := numsT_len hx i; simp; omega) fun v6 H6 hv10 => ?_
      simp (disch := omega) only [go_sem, Nat.reduceEqDiff, Nat.reduceAdd, Nat.reduceMul, Nat.reduceSub, Nat.reduceLeDiff, ↓reduceIte, reduceCtorEq, Int.reduceAdd, Int.reduceSub, Int.reduceMul, Int.reduceNeg, Int.reduceToNat, List.reduceReplicate, String.reduceEq]
      refine DFin.refl ⟨_, rfl, ?_⟩
      have := OwnJ.less hv10 ((Sub.refl H0).up hsub _)
      rw [lineT, ho]; simpa [OBJ] using this
end Go.Dl

-- Chapter 35: Text, of both sides.
namespace Go.Dl
open Go Go.Proofs
set_option maxRecDepth 10000

def textL (l : List Act) : List UInt8 := l.flatMap lineT
theorem textL_succ {l : List Act} {i : Nat} (h : i < l.length) : textL (l.take (i + 1)) = textL (l.take i) ++ lineT l[i] := by
  rw [textL, textL, List.take_succ_eq_append_getElem h, List.flatMap_append]; simp
theorem textL_len {l : List Act} (hx : ActsW l) : (textL l).length ≤ l.length * 131 := by
  induction l with
  | nil => simp [textL]
  | cons x l ih =>
    have h1 := oneT_len (hx x (by simp))
    have h2 := ih fun y hy => hx y (by simp [hy])
    simp only [textL, List.flatMap_cons, List.length_append, List.length_cons, lineT] at h2 ⊢
    simp only [List.length_nil]
    omega
theorem ActsW.take {l : List Act} (hx : ActsW l) (i : Nat) : ActsW (l.take i) := fun x h => hx x (List.mem_of_mem_take h)
def textD (l : List Act) : List UInt8 × Int := if mayA l = true then if (textL l).length ≤ 8388608 then (textL l, 0) else ([], 3) else ([], 2)

theorem mayA_valid {l : List Act} (h : mayA l = true) : l.length ≤ 100000 ∧ (∀ x ∈ l, validA x = true) ∧ sortedA l = true := by
  simp only [mayA, Bool.and_eq_true, decide_eq_true_eq, List.all_eq_true] at h
  exact ⟨h.1.1, h.1.2, h.2⟩
theorem validA_kind {x : Act} (h : validA x = true) : 1 ≤ x.kind ∧ x.kind < 28 := by
  simp only [validA, actOk, Bool.and_eq_true, decide_eq_true_eq] at h
  exact ⟨h.1.1, h.1.2.1⟩

attribute [go_sem] strOf_dBs
theorem OBJ.strSrc {H H' : DHeap} {l : List UInt8} {v : DVal} (h : OBJ H l v H') : Dl.strSrc H' v = some (dBs l) := by
  rcases h with ⟨h0, h1, rfl, _⟩ | ⟨r, _, h1, rfl, h2, _⟩
  · have : l = [] := List.length_eq_zero_iff.1 h0
    subst this; rfl
  · simp only [Dl.strSrc, h2, strSrcO]
    rw [if_pos (by omega), List.drop_zero, List.take_of_length_le (by omega)]
theorem OBJ.len {H H' : DHeap} {l : List UInt8} {v : DVal} (h : OBJ H l v H') {dst : Option Nat} {K : DK} {s : DS} {e : TypeId} :
    dLen dst (some (.slice e)) v K s = dput dst (dI l.length) K s := by
  rcases h with ⟨h0, h1, rfl, _⟩ | ⟨r, _, h1, rfl, h2, _⟩
  · have : l = [] := List.length_eq_zero_iff.1 h0
    subst this; rfl
  · rfl

theorem text_spec {G : Nat → DVal} (hG : G 0 = .vptr dKinds 0) (hG4 : G 4 = .vptr dPow 0) (H : DHeap) (l : List Act) (hx : ActsW l) (hl : l.length ≤ 1000000000) :
    DCalls Tryd.prog G 11 [dActs l] H (DRet (.tuple [.str (textD l).1, dI (textD l).2]) H) := by
  refine dcalls_intro Tryd.func11 Tryd.call11 rfl (by kernel_rfl) ?_
  simp (disch := omega) only [go_sem, Nat.reduceEqDiff, Nat.reduceAdd, Nat.reduceMul, Nat.reduceSub, Nat.reduceLeDiff, ↓reduceIte, reduceCtorEq, Int.reduceAdd, Int.reduceSub, Int.reduceMul, Int.reduceNeg, Int.reduceToNat, List.reduceReplicate, String.reduceEq]
  refine (may_spec G hG H l (by omega) hx).mono ?_
  rintro _ H ⟨rfl, rfl⟩
  cases c : mayA l with
  | false =>
    simp (disch := omega) only [go_sem, Nat.reduceEqDiff, Nat.reduceAdd, Nat.reduceMul, Nat.reduceSub, Nat.reduceLeDiff, ↓reduceIte, reduceCtorEq, Int.reduceAdd, Int.reduceSub, Int.reduceMul, Int.reduceNeg, Int.reduceToNat, List.reduceReplicate, String.reduceEq]
    exact DFin.refl ⟨by rw [textD, c]; rfl, rfl⟩
  | true =>
    obtain ⟨m1, m2, m3⟩ := mayA_valid c
    simp (disch := omega) only [go_sem, Nat.reduceEqDiff, Nat.reduceAdd, Nat.reduceMul, Nat.reduceSub, Nat.reduceLeDiff, ↓reduceIte, reduceCtorEq, Int.reduceAdd, Int.reduceSub, Int.reduceMul, Int.reduceNeg, Int.reduceToNat, List.reduceReplicate, String.reduceEq, dActs]
    obtain ⟨I, hI⟩ : ∃ I : Nat → (Nat → DVal) → DHeap → Prop, ∀ i env heap, I i env heap ↔ (env 10 = dActs l ∧ env 11 = dI l.length ∧ env 12 = dI i ∧ i ≤ l.length ∧ OBJ H (textL (l.take i)) (env 4) heap) := ⟨_, fun _ _ _ => Iff.rfl⟩
    refine DLoop.run I (fun i => l.length - i) 0 ((hI _ _ _).2 ?_) ?_
    · simp (disch := omega) only [go_sem, Nat.reduceEqDiff, Nat.reduceAdd, Nat.reduceMul, Nat.reduceSub, Nat.reduceLeDiff, ↓reduceIte, reduceCtorEq, Int.reduceAdd, Int.reduceSub, Int.reduceMul, Int.reduceNeg, Int.reduceToNat, List.reduceReplicate, String.reduceEq]
      (repeat' apply And.intro) <;> (try first | rfl | assumption | omega)
      exact OwnJ.nil _ _ (Sub.refl _)
    · intro i env heap hi
      obtain ⟨h10, h11, h12, hi, hv⟩ := (hI _ _ _).1 hi
      have hlen := textL_len (hx.take i)
      rw [List.length_take] at hlen
      by_cases hlt : i < l.length
      · have hget := flat_el dAct_length l i hlt
        simp (disch := omega) only [go_sem, Nat.reduceEqDiff, Nat.reduceAdd, Nat.reduceMul, Nat.reduceSub, Nat.reduceLeDiff, ↓reduceIte, reduceCtorEq, Int.reduceAdd, Int.reduceSub, Int.reduceMul, Int.reduceNeg, Int.reduceToNat, List.reduceReplicate, String.reduceEq, h10, h11, h12, dActs, hget, flat_len dAct_length]
        intro r hr; dsimp only at hr
        have e : DVal.agg [dI l[i].time, dI l[i].task, .int .u8 l[i].kind, dI l[i].a, dI l[i].b, dI l[i].n] = .agg (dAct l[i]) := rfl
        simp (disch := omega) only [go_sem, Nat.reduceEqDiff, Nat.reduceAdd, Nat.reduceMul, Nat.reduceSub, Nat.reduceLeDiff, ↓reduceIte, reduceCtorEq, Int.reduceAdd, Int.reduceSub, Int.reduceMul, Int.reduceNeg, Int.reduceToNat, List.reduceReplicate, String.reduceEq, h10, h11, h12, dActs, hget, flat_len dAct_length, dAct, e]
        refine (put_spec hG hG4 l[i] (hx _ (List.getElem_mem hlt)) (validA_kind (m2 _ (List.getElem_mem hlt))) (by omega) (OwnJ.new hv hr _)).mono ?_
        rintro _ H1 ⟨v1, rfl, hv1⟩
        simp (disch := omega) only [go_sem, Nat.reduceEqDiff, Nat.reduceAdd, Nat.reduceMul, Nat.reduceSub, Nat.reduceLeDiff, ↓reduceIte, reduceCtorEq, Int.reduceAdd, Int.reduceSub, Int.reduceMul, Int.reduceNeg, Int.reduceToNat, List.reduceReplicate, String.reduceEq, h10, h11, h12]
        refine ⟨i + 1, _, GhostS.refl _, (hI _ _ _).2 ?_, by omega⟩
        simp (disch := omega) only [go_sem, Nat.reduceEqDiff, Nat.reduceAdd, Nat.reduceMul, Nat.reduceSub, Nat.reduceLeDiff, ↓reduceIte, reduceCtorEq, Int.reduceAdd, Int.reduceSub, Int.reduceMul, Int.reduceNeg, Int.reduceToNat, List.reduceReplicate, String.reduceEq, h10, h11, h12]
        (repeat' apply And.intro) <;> (try first | rfl | assumption | omega)
        rw [textL_succ hlt]; exact hv1
      · simp (disch := omega) only [go_sem, Nat.reduceEqDiff, Nat.reduceAdd, Nat.reduceMul, Nat.reduceSub, Nat.reduceLeDiff, ↓reduceIte, reduceCtorEq, Int.reduceAdd, Int.reduceSub, Int.reduceMul, Int.reduceNeg, Int.reduceToNat, List.reduceReplicate, String.reduceEq, h10, h11, h12]
        have : i = l.length := by omega
        subst this
        rw [List.take_length] at hv hlen
        rw [hv.len]
        by_cases c2 : 8388608 < (textL l).length
        · simp (disch := omega) only [go_sem, Nat.reduceEqDiff, Nat.reduceAdd, Nat.reduceMul, Nat.reduceSub, Nat.reduceLeDiff, ↓reduceIte, reduceCtorEq, Int.reduceAdd, Int.reduceSub, Int.reduceMul, Int.reduceNeg, Int.reduceToNat, List.reduceReplicate, String.reduceEq]
          refine DFin.sub (OwnJ.sub hv) (DFin.refl ⟨by rw [textD, c, if_pos rfl, if_neg (by omega)], rfl⟩)
        · simp (disch := omega) only [go_sem, Nat.reduceEqDiff, Nat.reduceAdd, Nat.reduceMul, Nat.reduceSub, Nat.reduceLeDiff, ↓reduceIte, reduceCtorEq, Int.reduceAdd, Int.reduceSub, Int.reduceMul, Int.reduceNeg, Int.reduceToNat, List.reduceReplicate, String.reduceEq, hv.strSrc, Option.bind_some]
          refine DFin.sub (OwnJ.sub hv) (DFin.refl ⟨by rw [textD, c, if_pos rfl, if_pos (by omega)], rfl⟩)

theorem rtext_spec {G : Nat → DVal} (H : DHeap) (l : List Act) (hx : ActsW l) (hl : l.length ≤ 1000000000) :
    DCalls Tryd.prog G 12 [dActs l] H (DRet (.tuple [.str (textD l).1, dI (textD l).2]) H) := by
  refine dcalls_intro Tryd.func12 Tryd.call12 rfl (by kernel_rfl) ?_
  simp (disch := omega) only [go_sem, Nat.reduceEqDiff, Nat.reduceAdd, Nat.reduceMul, Nat.reduceSub, Nat.reduceLeDiff, ↓reduceIte, reduceCtorEq, Int.reduceAdd, Int.reduceSub, Int.reduceMul, Int.reduceNeg, Int.reduceToNat, List.reduceReplicate, String.reduceEq]
  refine (rmay_spec G H l (by omega) hx).mono ?_
  rintro _ H ⟨rfl, rfl⟩
  cases c : mayA l with
  | false =>
    simp (disch := omega) only [go_sem, Nat.reduceEqDiff, Nat.reduceAdd, Nat.reduceMul, Nat.reduceSub, Nat.reduceLeDiff, ↓reduceIte, reduceCtorEq, Int.reduceAdd, Int.reduceSub, Int.reduceMul, Int.reduceNeg, Int.reduceToNat, List.reduceReplicate, String.reduceEq]
    exact DFin.refl ⟨by rw [textD, c]; rfl, rfl⟩
  | true =>
    obtain ⟨m1, m2, m3⟩ := mayA_valid c
    simp (disch := omega) only [go_sem, Nat.reduceEqDiff, Nat.reduceAdd, Nat.reduceMul, Nat.reduceSub, Nat.reduceLeDiff, ↓reduceIte, reduceCtorEq, Int.reduceAdd, Int.reduceSub, Int.reduceMul, Int.reduceNeg, Int.reduceToNat, List.reduceReplicate, String.reduceEq, dActs]
    obtain ⟨I, hI⟩ : ∃ I : Nat → (Nat → DVal) → DHeap → Prop, ∀ i env heap, I i env heap ↔ (env 0 = dActs l ∧ env 5 = dI i ∧ i ≤ l.length ∧ OBJ H (textL (l.take i)) (env 4) heap) := ⟨_, fun _ _ _ => Iff.rfl⟩
    refine DLoop.run I (fun i => l.length - i) 0 ((hI _ _ _).2 ?_) ?_
    · simp (disch := omega) only [go_sem, Nat.reduceEqDiff, Nat.reduceAdd, Nat.reduceMul, Nat.reduceSub, Nat.reduceLeDiff, ↓reduceIte, reduceCtorEq, Int.reduceAdd, Int.reduceSub, Int.reduceMul, Int.reduceNeg, Int.reduceToNat, List.reduceReplicate, String.reduceEq]
      (repeat' apply And.intro) <;> (try first | rfl | assumption | omega)
      exact OwnJ.nil _ _ (Sub.refl _)
    · intro i env heap hi
      obtain ⟨h0, h5, hi, hv⟩ := (hI _ _ _).1 hi
      have hlen := textL_len (hx.take i)
      rw [List.length_take] at hlen
      by_cases hlt : i < l.length
      · have hget := flat_el dAct_length l i hlt
        have hxi := hx _ (List.getElem_mem hlt)
        have h1 := oneT_len hxi
        simp (disch := omega) only [go_sem, Nat.reduceEqDiff, Nat.reduceAdd, Nat.reduceMul, Nat.reduceSub, Nat.reduceLeDiff, ↓reduceIte, reduceCtorEq, Int.reduceAdd, Int.reduceSub, Int.reduceMul, Int.reduceNeg, Int.reduceToNat, List.reduceReplicate, String.reduceEq, h0, h5, dActs, hget, flat_len dAct_length]
        refine (one_spec G _ l[i] hxi (validA_kind (m2 _ (List.getElem_mem hlt)))).mono ?_
        rintro _ H ⟨rfl, rfl⟩
        simp (disch := omega) only [go_sem, Nat.reduceEqDiff, Nat.reduceAdd, Nat.reduceMul, Nat.reduceSub, Nat.reduceLeDiff, ↓reduceIte, reduceCtorEq, Int.reduceAdd, Int.reduceSub, Int.reduceMul, Int.reduceNeg, Int.reduceToNat, List.reduceReplicate, String.reduceEq, h0, h5]
        refine OBJ.app hv (by omega) fun v1 H1 hv1 => ?_
        simp (disch := omega) only [go_sem, Nat.reduceEqDiff, Nat.reduceAdd, Nat.reduceMul, Nat.reduceSub, Nat.reduceLeDiff, ↓reduceIte, reduceCtorEq, Int.reduceAdd, Int.reduceSub, Int.reduceMul, Int.reduceNeg, Int.reduceToNat, List.reduceReplicate, String.reduceEq, h0, h5]
        intro r hr; dsimp only at hr
        simp (disch := omega) only [go_sem, Nat.reduceEqDiff, Nat.reduceAdd, Nat.reduceMul, Nat.reduceSub, Nat.reduceLeDiff, ↓reduceIte, reduceCtorEq, Int.reduceAdd, Int.reduceSub, Int.reduceMul, Int.reduceNeg, Int.reduceToNat, List.reduceReplicate, String.reduceEq, h0, h5]
        refine OBJ.app (m := [10]) (OwnJ.new hv1 hr _) (by simp; omega) fun v2 H2 hv2 => ?_
        simp (disch := omega) only [go_sem, Nat.reduceEqDiff, Nat.reduceAdd, Nat.reduceMul, Nat.reduceSub, Nat.reduceLeDiff, ↓reduceIte, reduceCtorEq, Int.reduceAdd, Int.reduceSub, Int.reduceMul, Int.reduceNeg, Int.reduceToNat, List.reduceReplicate, String.reduceEq, h0, h5]
        refine ⟨i + 1, _, GhostS.refl _, (hI _ _ _).2 ?_, by omega⟩
        simp (disch := omega) only [go_sem, Nat.reduceEqDiff, Nat.reduceAdd, Nat.reduceMul, Nat.reduceSub, Nat.reduceLeDiff, ↓reduceIte, reduceCtorEq, Int.reduceAdd, Int.reduceSub, Int.reduceMul, Int.reduceNeg, Int.reduceToNat, List.reduceReplicate, String.reduceEq, h0, h5]
        (repeat' apply And.intro) <;> (try first | rfl | assumption | omega)
        rw [textL_succ hlt, lineT]; simpa using hv2
      · simp (disch := omega) only [go_sem, Nat.reduceEqDiff, Nat.reduceAdd, Nat.reduceMul, Nat.reduceSub, Nat.reduceLeDiff, ↓reduceIte, reduceCtorEq, Int.reduceAdd, Int.reduceSub, Int.reduceMul, Int.reduceNeg, Int.reduceToNat, List.reduceReplicate, String.reduceEq, h0, h5, dActs]
        have : i = l.length := by omega
        subst this
        rw [List.take_length] at hv hlen
        rw [hv.len]
        by_cases c2 : 8388608 < (textL l).length
        · simp (disch := omega) only [go_sem, Nat.reduceEqDiff, Nat.reduceAdd, Nat.reduceMul, Nat.reduceSub, Nat.reduceLeDiff, ↓reduceIte, reduceCtorEq, Int.reduceAdd, Int.reduceSub, Int.reduceMul, Int.reduceNeg, Int.reduceToNat, List.reduceReplicate, String.reduceEq]
          refine DFin.sub (OwnJ.sub hv) (DFin.refl ⟨by rw [textD, c, if_pos rfl, if_neg (by omega)], rfl⟩)
        · simp (disch := omega) only [go_sem, Nat.reduceEqDiff, Nat.reduceAdd, Nat.reduceMul, Nat.reduceSub, Nat.reduceLeDiff, ↓reduceIte, reduceCtorEq, Int.reduceAdd, Int.reduceSub, Int.reduceMul, Int.reduceNeg, Int.reduceToNat, List.reduceReplicate, String.reduceEq, hv.strSrc, Option.bind_some]
          refine DFin.sub (OwnJ.sub hv) (DFin.refl ⟨by rw [textD, c, if_pos rfl, if_pos (by omega)], rfl⟩)
end Go.Dl

-- Chapter 35: reading numbers and pieces: the plain laws.
namespace Go.Dl
open Go Go.Proofs
set_option maxRecDepth 10000

theorem decDigits_digits (u : Nat) : ∀ b ∈ Lib.decDigits u, 48 ≤ b.toNat ∧ b.toNat ≤ 57 := by
  induction u using Nat.strongRecOn with
  | ind u ih =>
    have one : ∀ d : Nat, d < 10 → 48 ≤ (UInt8.ofNat (48 + d)).toNat ∧ (UInt8.ofNat (48 + d)).toNat ≤ 57 := fun d hd => by
      rw [UInt8.toNat_ofNat']; omega
    intro b hb
    rw [Lib.decDigits] at hb
    split at hb
    · rename_i h
      rw [List.mem_singleton] at hb; subst hb; exact one u h
    · rename_i h
      rcases List.mem_append.1 hb with hb | hb
      · exact ih (u / 10) (by omega) b hb
      · rw [List.mem_singleton] at hb; subst hb; exact one _ (by omega)
theorem decDigits_ne (u : Nat) : Lib.decDigits u ≠ [] := by
  rw [Lib.decDigits]; split <;> simp

theorem parseUintM_append (M : Nat) : ∀ (l r : List UInt8) (acc v : Nat), Lib.parseUintM M acc l = .ok v → Lib.parseUintM M acc (l ++ r) = Lib.parseUintM M v r
  | [], r, acc, v, h => by simp only [Lib.parseUintM] at h; cases h; rfl
  | c :: l, r, acc, v, h => by
    simp only [Lib.parseUintM, List.cons_append] at h ⊢
    split at h
    · rename_i h1
      rw [if_pos h1]
      split at h
      · cases h
      · rename_i h2
        rw [if_neg h2]
        split at h
        · cases h
        · rename_i h3
          rw [if_neg h3]
          exact parseUintM_append M l r _ v h
    · cases h
theorem parse_digits (u : Nat) (hu : u < 18446744073709551616) : Lib.parseUintM 18446744073709551615 0 (Lib.decDigits u) = .ok u := by
  induction u using Nat.strongRecOn with
  | ind u ih =>
    have d : ∀ d : Nat, d < 10 → (UInt8.ofNat (48 + d)).toNat = 48 + d := fun d hd => by rw [UInt8.toNat_ofNat']; omega
    rw [Lib.decDigits]
    split
    · rename_i h
      simp only [Lib.parseUintM, d u h]
      rw [if_pos (by omega), if_neg (by omega), if_neg (by omega)]
      congr 1; omega
    · rename_i h
      rw [parseUintM_append _ _ _ _ _ (ih (u / 10) (by omega) (by omega))]
      simp only [Lib.parseUintM, d (u % 10) (by omega)]
      rw [if_pos (by omega), if_neg (by omega), if_neg (by omega)]
      congr 1; omega
theorem parse_itoa {n : Int} (h : I64 n) : Lib.parseIntB 64 (Lib.itoa n) = .ok n := by
  obtain ⟨h1, h2⟩ := h
  have hM : (2 ^ 64 - 1 : Nat) = 18446744073709551615 := by decide
  have hM2 : (2 ^ (64 - 1) : Nat) = 9223372036854775808 := by decide
  by_cases c : n < 0
  · obtain ⟨u, rfl⟩ : ∃ u : Nat, n = -(u : Int) := ⟨n.natAbs, by omega⟩
    rw [Lib.itoa_neg u (by omega), Lib.parseIntB_minus, Lib.parseUintB, if_neg (decDigits_ne u), hM, hM2, parse_digits u (by omega)]
    simp only [Lib.signedC]
    rw [if_neg (by omega)]
  · obtain ⟨u, rfl⟩ : ∃ u : Nat, n = (u : Int) := ⟨n.toNat, by omega⟩
    rw [Lib.itoa_nonneg]
    have hp := parse_digits u (by omega)
    cases hd : Lib.decDigits u with
    | nil => exact absurd hd (decDigits_ne u)
    | cons c r =>
      have hc := decDigits_digits u c (by rw [hd]; simp)
      rw [Lib.parseIntB_plain _ _ _ (by omega) (by omega), Lib.parseUintB, if_neg (by simp), hM, hM2, ← hd, hp]
      simp only [Lib.signlessC]
      rw [if_neg (by omega)]

/-- The number that strconv.ParseInt reads. -/
def pI (s : List UInt8) : Option Int := match Lib.parseIntB 64 s with | .ok n => some n | _ => none
theorem pI_itoa {n : Int} (h : I64 n) : pI (Lib.itoa n) = some n := by rw [pI, parse_itoa h]
theorem pI_i64 {s : List UInt8} {n : Int} (h : pI s = some n) : I64 n := by
  unfold pI at h
  split at h
  · rename_i e
    cases h
    have := Lib.parseIntB_bounds e
    simp at this
    exact ⟨by omega, by omega⟩
  · cases h
def wordOf (s : List UInt8) : List UInt8 := (Lib.cut s [32]).1
def restOf (s : List UInt8) : List UInt8 := (Lib.cut s [32]).2.1

theorem index_at (w r : List UInt8) (c : UInt8) (h : c ∉ w) : Lib.index (w ++ c :: r) [c] = w.length := by
  induction w with
  | nil => simp [Lib.index]
  | cons b w ih =>
    simp only [List.mem_cons, not_or] at h
    have hp : ([c].isPrefixOf (b :: (w ++ c :: r))) = false := by simp [List.isPrefixOf, h.1]
    simp only [List.cons_append, Lib.index, hp, ih h.2]
    simp
theorem index_no (w : List UInt8) (c : UInt8) (h : c ∉ w) : Lib.index w [c] = -1 := by
  induction w with
  | nil => rfl
  | cons b w ih =>
    simp only [List.mem_cons, not_or] at h
    have hp : ([c].isPrefixOf (b :: w)) = false := by simp [List.isPrefixOf, h.1]
    simp [Lib.index, hp, ih h.2]
theorem cut_at (w r : List UInt8) (c : UInt8) (h : c ∉ w) : Lib.cut (w ++ c :: r) [c] = (w, r, true) := by
  rw [Lib.cut, index_at w r c h, if_pos (by omega)]
  simp
theorem cut_no (w : List UInt8) (c : UInt8) (h : c ∉ w) : Lib.cut w [c] = (w, [], false) := by
  rw [Lib.cut, index_no w c h, if_neg (by omega)]

theorem itoa_chars (n : Int) : ∀ b ∈ Lib.itoa n, 45 ≤ b.toNat ∧ b.toNat ≤ 57 := by
  intro b hb
  unfold Lib.itoa at hb
  split at hb
  · rcases List.mem_cons.1 hb with rfl | hb
    · decide
    · have := decDigits_digits _ b hb; omega
  · have := decDigits_digits _ b hb; omega
theorem itoa_no (n : Int) (c : UInt8) (h : c.toNat < 45) : c ∉ Lib.itoa n := fun hc => by have := itoa_chars n c hc; omega
theorem word_chars (k : Int) : ∀ b ∈ (kindAt k).1, 97 ≤ b.toNat := by
  unfold kindAt
  generalize k.toNat = i
  rcases Nat.lt_or_ge i 28 with h | h
  · have : ∀ j : Fin 28, ∀ b ∈ (kindT.getD j.val ([], 0)).1, 97 ≤ b.toNat := by decide
    exact this ⟨i, h⟩
  · rw [List.getD, List.getElem?_eq_none (by rw [kindT_length]; omega)]; simp
theorem word_no (k : Int) (c : UInt8) (h : c.toNat < 97) : c ∉ (kindAt k).1 := fun hc => by have := word_chars k c hc; omega

/-- Numbers, each with a space ahead of it. -/
def numsF (vs : List Int) : List UInt8 := (vs.map fun v => 32 :: Lib.itoa v).flatten
theorem numsT_F (x : Act) (m : Nat) : numsT x m = numsF ([x.a, x.b, x.n].take m) := rfl
theorem piece (w : List UInt8) (h : (32 : UInt8) ∉ w) (vs : List Int) : wordOf (w ++ numsF vs) = w ∧ restOf (w ++ numsF vs) = (numsF vs).drop 1 := by
  cases vs with
  | nil => simp [numsF, wordOf, restOf, cut_no w 32 h]
  | cons v vs =>
    have : numsF (v :: vs) = 32 :: (Lib.itoa v ++ numsF vs) := rfl
    rw [this, wordOf, restOf, cut_at _ _ _ h]
    simp

theorem trim_lf (s : List UInt8) : Lib.trimSuffix (s ++ [10]) [10] = s := by
  have h : Lib.hasSuffix (s ++ [10]) [10] = true := by
    unfold Lib.hasSuffix
    rw [List.isSuffixOf_iff_suffix]
    exact ⟨s, rfl⟩
  rw [Lib.trimSuffix, if_pos h]; simp

/-- The pieces behind the word, as numbers. -/
def restN : Nat → List UInt8 → List UInt8
  | 0, s => s
  | i + 1, s => restOf (restN i s)
def pN (s : List UInt8) (i : Nat) : Option Int := pI (wordOf (restN i s))

/-- The act whose line this is. -/
def LineOf (x : Act) (s : List UInt8) : Prop := ActW x ∧ validA x = true ∧ lineT x = s
def kindIx (w : List UInt8) : Int := idxF (fun k => decide (k.1 = w ∧ w ≠ [])) kindT

theorem kindIx_word (k : Int) (h : 1 ≤ k ∧ k < 28) : kindIx (kindAt k).1 = k := by
  have : ∀ j : Fin 28, 1 ≤ j.val → kindIx (kindT.getD j.val ([], 0)).1 = j.val := by decide +kernel
  have := this ⟨k.toNat, by omega⟩ (by show 1 ≤ k.toNat; omega)
  unfold kindAt
  rw [this]
  show ((k.toNat : Nat) : Int) = k
  omega
theorem kindIx_lt (w : List UInt8) : kindIx w < 28 := by
  unfold kindIx idxF
  split
  · rename_i i h
    have := (List.findIdx?_eq_some_iff_getElem.1 h).1
    rw [kindT_length] at this; omega
  · omega

/-- What reading the line of an act finds. -/
theorem line_parse {y : Act} {s t : List UInt8} (h : LineOf y s) (ht : t = Lib.trimSuffix s [10]) :
    pI (wordOf t) = some y.time ∧ pI (wordOf (restOf t)) = some y.task ∧ kindIx (wordOf (restOf (restOf t))) = y.kind ∧
      ∀ i v, ([y.a, y.b, y.n].take (kindAt y.kind).2)[i]? = some v → pN (restOf (restOf (restOf t))) i = some v := by
  obtain ⟨hw, hv, hl⟩ := h
  obtain ⟨w0, w1, wt, wk, wa, wb, wn⟩ := id hw
  have hk := validA_kind hv
  have e : t = Lib.itoa y.time ++ 32 :: (Lib.itoa y.task ++ 32 :: ((kindAt y.kind).1 ++ numsF ([y.a, y.b, y.n].take (kindAt y.kind).2))) := by
    rw [ht, ← hl, lineT, trim_lf, oneT, headT, numsT_F]
    simp
  have c1 := cut_at (Lib.itoa y.time) (Lib.itoa y.task ++ 32 :: ((kindAt y.kind).1 ++ numsF ([y.a, y.b, y.n].take (kindAt y.kind).2))) 32 (itoa_no _ _ (by decide))
  have c2 := cut_at (Lib.itoa y.task) ((kindAt y.kind).1 ++ numsF ([y.a, y.b, y.n].take (kindAt y.kind).2)) 32 (itoa_no _ _ (by decide))
  obtain ⟨c3, c4⟩ := piece (kindAt y.kind).1 (word_no _ _ (by decide)) ([y.a, y.b, y.n].take (kindAt y.kind).2)
  have r1 : restOf t = Lib.itoa y.task ++ 32 :: ((kindAt y.kind).1 ++ numsF ([y.a, y.b, y.n].take (kindAt y.kind).2)) := by rw [e, restOf, c1]
  have r2 : restOf (restOf t) = (kindAt y.kind).1 ++ numsF ([y.a, y.b, y.n].take (kindAt y.kind).2) := by rw [r1, restOf, c2]
  refine ⟨by rw [e, wordOf, c1]; exact pI_itoa wt, by rw [r1, wordOf, c2]; exact pI_itoa wk, by rw [r2, c3, kindIx_word _ hk], ?_⟩
  rw [r2, c4]
  have hvs : ∀ v ∈ [y.a, y.b, y.n].take (kindAt y.kind).2, I64 v := fun v hv => abn_w hw (List.mem_of_mem_take hv)
  generalize [y.a, y.b, y.n].take (kindAt y.kind).2 = vs at hvs
  have key : ∀ i, i ≤ vs.length → restN i ((numsF vs).drop 1) = (numsF (vs.drop i)).drop 1 := by
    intro i
    induction i with
    | zero => intro _; rfl
    | succ i ih =>
      intro hi
      rw [restN, ih (by omega), List.drop_eq_getElem_cons (by omega : i < vs.length)]
      have : numsF (vs[i] :: vs.drop (i + 1)) = 32 :: (Lib.itoa vs[i] ++ numsF (vs.drop (i + 1))) := rfl
      rw [this, List.drop_succ_cons, List.drop_zero]
      exact (piece _ (itoa_no _ _ (by decide)) _).2
  intro i v hiv
  obtain ⟨hi, rfl⟩ := List.getElem?_eq_some_iff.1 hiv
  rw [pN, key i (by omega), List.drop_eq_getElem_cons hi]
  have : numsF (vs[i] :: vs.drop (i + 1)) = 32 :: (Lib.itoa vs[i] ++ numsF (vs.drop (i + 1))) := rfl
  rw [this, List.drop_succ_cons, List.drop_zero, (piece _ (itoa_no _ _ (by decide)) _).1]
  exact pI_itoa (hvs _ (List.getElem_mem hi))
end Go.Dl

-- Chapter 35: reading an act: pieces, numbers, kinds.
namespace Go.Dl
open Go Go.Proofs
set_option maxRecDepth 10000


theorem indexFunc_kind (G : Nat → DVal) (H : DHeap) (p : (List UInt8 × Nat) → Bool) (l : List (List UInt8 × Nat)) (g : FuncId) (xs ys : List DVal) (hl : l.length ≤ 1099511627776)
    (hp : ∀ x ∈ l, DCalls Tryd.prog G g (xs ++ [.agg (dKind x)] ++ ys) H (DRet (.bool (p x)) H)) :
    DCalls Tryd.prog G 66 [.vslice (l.flatMap dKind) l.length, .func (.func g) xs ys] H (DRet (dI (idxF p l)) H) := by
  refine dcalls_intro Tryd.func66 Tryd.call66 rfl (by kernel_rfl) ?_
  simp (disch := omega) only [go_sem, Nat.reduceEqDiff, Nat.reduceAdd, Nat.reduceMul, Nat.reduceSub, Nat.reduceLeDiff, ↓reduceIte, reduceCtorEq, Int.reduceAdd, Int.reduceSub, Int.reduceMul, Int.reduceNeg, Int.reduceToNat, List.reduceReplicate, String.reduceEq]
  refine DLoop.run (fun (i : Nat) env heap => heap = H ∧ env 0 = .vslice (l.flatMap dKind) l.length ∧ env 1 = .func (.func g) xs ys ∧ env 7 = dI l.length ∧ env 8 = dI i ∧ i ≤ l.length ∧ ∀ x ∈ l.take i, p x = false) (fun i => l.length - i) 0 ?_ ?_
  · simp (disch := omega) only [go_sem, Nat.reduceEqDiff, Nat.reduceAdd, Nat.reduceMul, Nat.reduceSub, Nat.reduceLeDiff, ↓reduceIte, reduceCtorEq, Int.reduceAdd, Int.reduceSub, Int.reduceMul, Int.reduceNeg, Int.reduceToNat, List.reduceReplicate, String.reduceEq]
    simp
  · rintro i env heap ⟨rfl, h0, h1, h7, h8, hi, hn⟩
    by_cases hlt : i < l.length
    · have hget := flat_el dKind_length l i hlt
      simp (disch := omega) only [go_sem, Nat.reduceEqDiff, Nat.reduceAdd, Nat.reduceMul, Nat.reduceSub, Nat.reduceLeDiff, ↓reduceIte, reduceCtorEq, Int.reduceAdd, Int.reduceSub, Int.reduceMul, Int.reduceNeg, Int.reduceToNat, List.reduceReplicate, String.reduceEq, h0, h1, h7, h8, hget, flat_len dKind_length]
      have hc := hp l[i] (List.getElem_mem hlt)
      skip
      refine hc.mono ?_
      rintro _ H ⟨rfl, rfl⟩
      cases hx : p l[i] with
      | true =>
        simp (disch := omega) only [go_sem, Nat.reduceEqDiff, Nat.reduceAdd, Nat.reduceMul, Nat.reduceSub, Nat.reduceLeDiff, ↓reduceIte, reduceCtorEq, Int.reduceAdd, Int.reduceSub, Int.reduceMul, Int.reduceNeg, Int.reduceToNat, List.reduceReplicate, String.reduceEq, h0, h1, h7, h8]
        exact DFin.refl ⟨by rw [idxF_at hlt hx hn], rfl⟩
      | false =>
        simp (disch := omega) only [go_sem, Nat.reduceEqDiff, Nat.reduceAdd, Nat.reduceMul, Nat.reduceSub, Nat.reduceLeDiff, ↓reduceIte, reduceCtorEq, Int.reduceAdd, Int.reduceSub, Int.reduceMul, Int.reduceNeg, Int.reduceToNat, List.reduceReplicate, String.reduceEq, h0, h1, h7, h8]
        refine ⟨i + 1, _, GhostS.refl _, ?_, by omega⟩
        simp (disch := omega) only [go_sem, Nat.reduceEqDiff, Nat.reduceAdd, Nat.reduceMul, Nat.reduceSub, Nat.reduceLeDiff, ↓reduceIte, reduceCtorEq, Int.reduceAdd, Int.reduceSub, Int.reduceMul, Int.reduceNeg, Int.reduceToNat, List.reduceReplicate, String.reduceEq, h0, h1, h7, h8]
        (repeat' apply And.intro) <;> (try first | rfl | assumption | omega)
        exact take_next hlt hn hx
    · simp (disch := omega) only [go_sem, Nat.reduceEqDiff, Nat.reduceAdd, Nat.reduceMul, Nat.reduceSub, Nat.reduceLeDiff, ↓reduceIte, reduceCtorEq, Int.reduceAdd, Int.reduceSub, Int.reduceMul, Int.reduceNeg, Int.reduceToNat, List.reduceReplicate, String.reduceEq, h0, h1, h7, h8]
      have : i = l.length := by omega
      subst this
      rw [List.take_length] at hn
      exact DFin.refl ⟨by rw [idxF_no hn], rfl⟩

theorem act1_spec (G : Nat → DVal) (H : DHeap) (x : List UInt8 × Nat) (w : List UInt8) (r : Nat) (e : TypeId) (hr : H r = some (.cells [.str w] e)) :
    DCalls Tryd.prog G 67 ([] ++ [.agg (dKind x)] ++ [.optr r 0]) H (DRet (.bool (decide (x.1 = w ∧ w ≠ []))) H) := by
  refine dcalls_intro Tryd.func67 Tryd.call67 rfl (by kernel_rfl) ?_
  simp (disch := omega) only [go_sem, Nat.reduceEqDiff, Nat.reduceAdd, Nat.reduceMul, Nat.reduceSub, Nat.reduceLeDiff, ↓reduceIte, reduceCtorEq, Int.reduceAdd, Int.reduceSub, Int.reduceMul, Int.reduceNeg, Int.reduceToNat, List.reduceReplicate, String.reduceEq, dKind, DVal.cells, List.nil_append, List.cons_append]
  intro r2 hr2; dsimp only at hr2
  have e1 : ¬ r = r2 := fun e => by subst e; rw [hr] at hr2; cases hr2
  have e2 : ¬ r2 = r := fun e => e1 e.symm
  by_cases c1 : x.1 = w
  · by_cases c2 : w = []
    · simp (disch := omega) only [go_sem, Nat.reduceEqDiff, Nat.reduceAdd, Nat.reduceMul, Nat.reduceSub, Nat.reduceLeDiff, ↓reduceIte, reduceCtorEq, Int.reduceAdd, Int.reduceSub, Int.reduceMul, Int.reduceNeg, Int.reduceToNat, List.reduceReplicate, String.reduceEq, e1, e2, hr, c1, c2]
      exact DFin.dropA r2 hr2 (DFin.refl ⟨by simp, rfl⟩)
    · simp (disch := omega) only [go_sem, Nat.reduceEqDiff, Nat.reduceAdd, Nat.reduceMul, Nat.reduceSub, Nat.reduceLeDiff, ↓reduceIte, reduceCtorEq, Int.reduceAdd, Int.reduceSub, Int.reduceMul, Int.reduceNeg, Int.reduceToNat, List.reduceReplicate, String.reduceEq, e1, e2, hr, c1, c2]
      exact DFin.dropA r2 hr2 (DFin.refl ⟨by simp [c2], rfl⟩)
  · simp (disch := omega) only [go_sem, Nat.reduceEqDiff, Nat.reduceAdd, Nat.reduceMul, Nat.reduceSub, Nat.reduceLeDiff, ↓reduceIte, reduceCtorEq, Int.reduceAdd, Int.reduceSub, Int.reduceMul, Int.reduceNeg, Int.reduceToNat, List.reduceReplicate, String.reduceEq, e1, e2, hr, c1]
    exact DFin.dropA r2 hr2 (DFin.refl ⟨by simp [c1], rfl⟩)

/-- A scanner's cells. -/
abbrev dScan (s : List UInt8) (b : Bool) : DObj := .cells [.str s, .bool b] 100

theorem word_spec {G : Nat → DVal} (hG : GT G) (H : DHeap) (r : Nat) (s : List UInt8) (b : Bool) (hr : H r = some (dScan s b)) (hs : s.length < 4294967281) :
    DCalls Tryd.prog G 65 [.optr r 0] H fun e H' => e = .ret (.str (wordOf s)) ∧ H' = upd H r (some (dScan (restOf s) b)) := by
  refine dcalls_intro Tryd.func65 Tryd.call65 rfl (by kernel_rfl) ?_
  simp (disch := omega) only [go_sem, Nat.reduceEqDiff, Nat.reduceAdd, Nat.reduceMul, Nat.reduceSub, Nat.reduceLeDiff, ↓reduceIte, reduceCtorEq, Int.reduceAdd, Int.reduceSub, Int.reduceMul, Int.reduceNeg, Int.reduceToNat, List.reduceReplicate, String.reduceEq, hr]
  refine (cut_spec hG s [32] hs).mono ?_
  rintro _ H ⟨rfl, rfl⟩
  simp (disch := omega) only [go_sem, Nat.reduceEqDiff, Nat.reduceAdd, Nat.reduceMul, Nat.reduceSub, Nat.reduceLeDiff, ↓reduceIte, reduceCtorEq, Int.reduceAdd, Int.reduceSub, Int.reduceMul, Int.reduceNeg, Int.reduceToNat, List.reduceReplicate, String.reduceEq, hr]
  exact DFin.refl ⟨rfl, rfl⟩

theorem number35_spec {G : Nat → DVal} (hG : GT G) (H : DHeap) (r : Nat) (s : List UInt8) (b : Bool) (hr : H r = some (dScan s b)) (hs : s.length < 4294967281) :
    DCalls Tryd.prog G 64 [.optr r 0] H fun e H' => ∃ v, (∀ n, pI (wordOf s) = some n → v = n) ∧ e = .ret (dI v) ∧ H' = upd H r (some (dScan (restOf s) (b && (pI (wordOf s)).isSome))) := by
  refine dcalls_intro Tryd.func64 Tryd.call64 rfl (by kernel_rfl) ?_
  simp (disch := omega) only [go_sem, Nat.reduceEqDiff, Nat.reduceAdd, Nat.reduceMul, Nat.reduceSub, Nat.reduceLeDiff, ↓reduceIte, reduceCtorEq, Int.reduceAdd, Int.reduceSub, Int.reduceMul, Int.reduceNeg, Int.reduceToNat, List.reduceReplicate, String.reduceEq, hr]
  refine (word_spec hG H r s b hr hs).mono ?_
  rintro _ H' ⟨rfl, rfl⟩
  simp (disch := omega) only [go_sem, Nat.reduceEqDiff, Nat.reduceAdd, Nat.reduceMul, Nat.reduceSub, Nat.reduceLeDiff, ↓reduceIte, reduceCtorEq, Int.reduceAdd, Int.reduceSub, Int.reduceMul, Int.reduceNeg, Int.reduceToNat, List.reduceReplicate, String.reduceEq, hr]
  have hwl : (wordOf s).length ≤ 281474976710656 := by
    rw [wordOf, Lib.cut]; split
    · simp; omega
    · show s.length ≤ _; omega
  refine (parseInt_spec hG _ hwl).mono ?_
  rintro _ H' ⟨⟨v, er, rfl, hp⟩, rfl⟩
  simp (disch := omega) only [go_sem, Nat.reduceEqDiff, Nat.reduceAdd, Nat.reduceMul, Nat.reduceSub, Nat.reduceLeDiff, ↓reduceIte, reduceCtorEq, Int.reduceAdd, Int.reduceSub, Int.reduceMul, Int.reduceNeg, Int.reduceToNat, List.reduceReplicate, String.reduceEq, hr]
  obtain ⟨h1, h2⟩ := hp
  cases hp : pI (wordOf s) with
  | some n =>
    have hn : Lib.parseIntB 64 (wordOf s) = .ok n := by
      unfold pI at hp; split at hp
      · rename_i e; cases hp; exact e
      · cases hp
    obtain ⟨rfl, rfl⟩ := h1 n hn
    cases b
    · simp (disch := omega) only [go_sem, Nat.reduceEqDiff, Nat.reduceAdd, Nat.reduceMul, Nat.reduceSub, Nat.reduceLeDiff, ↓reduceIte, reduceCtorEq, Int.reduceAdd, Int.reduceSub, Int.reduceMul, Int.reduceNeg, Int.reduceToNat, List.reduceReplicate, String.reduceEq, hr]
      exact DFin.refl ⟨v, by simp⟩
    · simp (disch := omega) only [go_sem, Nat.reduceEqDiff, Nat.reduceAdd, Nat.reduceMul, Nat.reduceSub, Nat.reduceLeDiff, ↓reduceIte, reduceCtorEq, Int.reduceAdd, Int.reduceSub, Int.reduceMul, Int.reduceNeg, Int.reduceToNat, List.reduceReplicate, String.reduceEq, hr]
      exact DFin.refl ⟨v, by simp⟩
  | none =>
    obtain ⟨t, x, rfl⟩ := h2 fun n hn => by rw [pI, hn] at hp; cases hp
    cases b
    · simp (disch := omega) only [go_sem, Nat.reduceEqDiff, Nat.reduceAdd, Nat.reduceMul, Nat.reduceSub, Nat.reduceLeDiff, ↓reduceIte, reduceCtorEq, Int.reduceAdd, Int.reduceSub, Int.reduceMul, Int.reduceNeg, Int.reduceToNat, List.reduceReplicate, String.reduceEq, hr]
      exact DFin.refl ⟨v, by simp⟩
    · simp (disch := omega) only [go_sem, Nat.reduceEqDiff, Nat.reduceAdd, Nat.reduceMul, Nat.reduceSub, Nat.reduceLeDiff, ↓reduceIte, reduceCtorEq, Int.reduceAdd, Int.reduceSub, Int.reduceMul, Int.reduceNeg, Int.reduceToNat, List.reduceReplicate, String.reduceEq, hr]
      exact DFin.refl ⟨v, by simp⟩
end Go.Dl

-- Chapter 35: reading an act.
namespace Go.Dl
open Go Go.Proofs
set_option maxRecDepth 10000

theorem splice_setA {α : Type} (f : α → DVal) (l : List α) (e : Nat) (x : α) (h : e < l.length) : splice (l.map f) e [f x] = (l.set e x).map f := by
  unfold splice
  rw [List.set_eq_take_append_cons_drop, if_pos h]
  simp
theorem splice3 (a b c : DVal) (l : List Int) (e : Nat) (x : Int) (h : e < l.length) : splice (a :: b :: c :: l.map dI) (e + 3) [dI x] = a :: b :: c :: (l.set e x).map dI := by
  rw [show e + 3 = e + 1 + 1 + 1 from rfl, splice_succ, splice_succ, splice_succ, splice_setA dI l e x h]
/-- The first k numbers are read into fs. -/
def FilledN (r : List UInt8) (k : Nat) (fs : List Int) : Prop := fs.length = 3 ∧ (∀ j, j < k → ∀ n, pN r j = some n → fs[j]? = some n) ∧ ∀ j, k ≤ j → j < 3 → fs[j]? = some 0
def okN (r : List UInt8) (k : Nat) : Bool := (List.range k).all fun j => (pN r j).isSome
theorem okN_succ (r : List UInt8) (k : Nat) : okN r (k + 1) = (okN r k && (pN r k).isSome) := by simp [okN, List.range_succ]
theorem FilledN.set {r : List UInt8} {k : Nat} {fs : List Int} (h : FilledN r k fs) (v : Int) (hv : ∀ n, pN r k = some n → v = n) (hk : k < 3) : FilledN r (k + 1) (fs.set k v) := by
  obtain ⟨h1, h2, h3⟩ := h
  refine ⟨by simp [h1], fun j hj n hn => ?_, fun j hj hj3 => ?_⟩
  · by_cases e : j = k
    · subst e
      rw [List.getElem?_set_self (by omega), hv n hn]
    · rw [List.getElem?_set_ne (by omega)]; exact h2 j (by omega) n hn
  · rw [List.getElem?_set_ne (by omega)]; exact h3 j (by omega) hj3
theorem restN_len (hrest : ∀ s : List UInt8, (restOf s).length ≤ s.length) (s : List UInt8) : ∀ i, (restN i s).length ≤ s.length
  | 0 => Nat.le_refl _
  | i + 1 => Nat.le_trans (hrest _) (restN_len hrest s i)

theorem act_done {y : Act} {line r : List UInt8} {v1 v2 k f0 f1 f2 : Int} (hy : LineOf y line) (h1 : y.time = v1) (h2 : y.task = v2) (h3 : y.kind = k)
    (h4 : ∀ i v, ([y.a, y.b, y.n].take (kindAt y.kind).2)[i]? = some v → pN r i = some v) (hf : FilledN r (kindAt k).2 [f0, f1, f2]) : y = ⟨v1, v2, k, f0, f1, f2⟩ ∧ okN r (kindAt k).2 = true := by
  obtain ⟨hw, hv, _⟩ := hy
  rw [h3] at h4
  have hm := kindAt_le k
  have hz : ∀ j, (kindAt k).2 ≤ j → ∀ v, [y.a, y.b, y.n][j]? = some v → v = 0 := by
    intro j hj v hjv
    simp only [validA, Bool.and_eq_true, Bool.not_eq_true', h3] at hv
    have h := hv.2
    simp only [nz, List.any_eq_false, decide_eq_true_eq, Decidable.not_not] at h
    refine h v (List.mem_of_getElem? (i := j - (kindAt k).2) ?_)
    rw [List.getElem?_drop, show (kindAt k).2 + (j - (kindAt k).2) = j by omega]; exact hjv
  have hf2 : ∀ j v, j < 3 → [y.a, y.b, y.n][j]? = some v → [f0, f1, f2][j]? = some v := by
    intro j v hj3 hjv
    by_cases hj : j < (kindAt k).2
    · exact hf.2.1 j hj v (h4 j v (by rw [List.getElem?_take, if_pos hj]; exact hjv))
    · rw [hf.2.2 j (by omega) hj3, hz j (by omega) v hjv]
  have ea := hf2 0 y.a (by omega) rfl
  have eb := hf2 1 y.b (by omega) rfl
  have en := hf2 2 y.n (by omega) rfl
  simp only [List.getElem?_cons_zero, List.getElem?_cons_succ, Option.some.injEq] at ea eb en
  refine ⟨by cases y; simp only [Act.mk.injEq] at *; exact ⟨h1, h2, h3, ea.symm, eb.symm, en.symm⟩, ?_⟩
  rw [okN, List.all_eq_true]
  intro j hj
  rw [List.mem_range] at hj
  have hl : j < [y.a, y.b, y.n].length := by simp; omega
  rw [h4 j _ (by rw [List.getElem?_take, if_pos hj, List.getElem?_eq_getElem hl])]; rfl
theorem filled_w {r : List UInt8} {k : Nat} {f0 f1 f2 : Int} (hf : FilledN r k [f0, f1, f2]) (hok : okN r k = true) : I64 f0 ∧ I64 f1 ∧ I64 f2 := by
  have key : ∀ j v, j < 3 → [f0, f1, f2][j]? = some v → I64 v := by
    intro j v hj hv
    by_cases h : j < k
    · rw [okN, List.all_eq_true] at hok
      obtain ⟨n, hn⟩ := Option.isSome_iff_exists.1 (hok j (List.mem_range.2 h))
      have := hf.2.1 j h n hn
      rw [hv] at this; cases this
      exact pI_i64 hn
    · have := hf.2.2 j (by omega) hj
      rw [hv] at this; cases this
      exact ⟨by omega, by omega⟩
  exact ⟨key 0 f0 (by omega) rfl, key 1 f1 (by omega) rfl, key 2 f2 (by omega) rfl⟩

theorem kinds_whole : dKinds.take 56 = dKinds := List.take_of_length_le (by rw [dKinds_length]; omega)

theorem act_spec {G : Nat → DVal} (hG : GT G) (hG0 : G 0 = .vptr dKinds 0) (hG4 : G 4 = .vptr dPow 0) (H : DHeap) (line : List UInt8) (hs : line.length ≤ 1000000000) :
    DCalls Tryd.prog G 43 [.str line] H fun e H' => (∃ x ok, e = .ret (.tuple [.agg (dAct x), .bool ok]) ∧ (ok = true → LineOf x line) ∧ ((∃ y, LineOf y line) → ok = true)) ∧ H' = H := by
  obtain ⟨t, ht⟩ : ∃ t, t = Lib.trimSuffix line [10] := ⟨_, rfl⟩
  have hlt : t.length ≤ 1000000000 := by
    rw [ht, Lib.trimSuffix]; split
    · simp; omega
    · omega
  have hrest : ∀ s : List UInt8, (restOf s).length ≤ s.length := fun s => by
    rw [restOf, Lib.cut]; split
    · simp
    · simp
  have hr1 := hrest t
  have hr2 := hrest (restOf t)
  have hr3 := hrest (restOf (restOf t))
  refine dcalls_intro Tryd.func43 Tryd.call43 rfl (by kernel_rfl) ?_
  simp (disch := omega) only [go_sem, Nat.reduceEqDiff, Nat.reduceAdd, Nat.reduceMul, Nat.reduceSub, Nat.reduceLeDiff, ↓reduceIte, reduceCtorEq, Int.reduceAdd, Int.reduceSub, Int.reduceMul, Int.reduceNeg, Int.reduceToNat, List.reduceReplicate, String.reduceEq]
  intro ra hra; dsimp only at hra
  simp (disch := omega) only [go_sem, Nat.reduceEqDiff, Nat.reduceAdd, Nat.reduceMul, Nat.reduceSub, Nat.reduceLeDiff, ↓reduceIte, reduceCtorEq, Int.reduceAdd, Int.reduceSub, Int.reduceMul, Int.reduceNeg, Int.reduceToNat, List.reduceReplicate, String.reduceEq]
  refine (trimSuffix_spec line [10] (by omega)).mono ?_
  rintro _ H' ⟨rfl, rfl⟩
  rw [← ht]
  simp (disch := omega) only [go_sem, Nat.reduceEqDiff, Nat.reduceAdd, Nat.reduceMul, Nat.reduceSub, Nat.reduceLeDiff, ↓reduceIte, reduceCtorEq, Int.reduceAdd, Int.reduceSub, Int.reduceMul, Int.reduceNeg, Int.reduceToNat, List.reduceReplicate, String.reduceEq]
  intro rs hrs; dsimp only at hrs
  rw [upd_eq_none] at hrs
  have e1 : ¬ ra = rs := fun e => hrs.1 e.symm
  have e2 : ¬ rs = ra := hrs.1
  simp (disch := omega) only [go_sem, Nat.reduceEqDiff, Nat.reduceAdd, Nat.reduceMul, Nat.reduceSub, Nat.reduceLeDiff, ↓reduceIte, reduceCtorEq, Int.reduceAdd, Int.reduceSub, Int.reduceMul, Int.reduceNeg, Int.reduceToNat, List.reduceReplicate, String.reduceEq, e1, e2]
  refine (number35_spec hG _ rs t true (upd_same _ _ _) (by omega)).mono ?_
  rintro _ H' ⟨v1, hv1, rfl, rfl⟩
  simp (disch := omega) only [go_sem, Nat.reduceEqDiff, Nat.reduceAdd, Nat.reduceMul, Nat.reduceSub, Nat.reduceLeDiff, ↓reduceIte, reduceCtorEq, Int.reduceAdd, Int.reduceSub, Int.reduceMul, Int.reduceNeg, Int.reduceToNat, List.reduceReplicate, String.reduceEq, e1, e2]
  refine (number35_spec hG _ rs (restOf t) _ (by simp [upd, e2]; rfl) (by omega)).mono ?_
  rintro _ H' ⟨v2, hv2, rfl, rfl⟩
  simp (disch := omega) only [go_sem, Nat.reduceEqDiff, Nat.reduceAdd, Nat.reduceMul, Nat.reduceSub, Nat.reduceLeDiff, ↓reduceIte, reduceCtorEq, Int.reduceAdd, Int.reduceSub, Int.reduceMul, Int.reduceNeg, Int.reduceToNat, List.reduceReplicate, String.reduceEq, e1, e2]
  refine (word_spec hG _ rs (restOf (restOf t)) _ (by simp [upd]; rfl) (by omega)).mono ?_
  rintro _ H' ⟨rfl, rfl⟩
  simp (disch := omega) only [go_sem, Nat.reduceEqDiff, Nat.reduceAdd, Nat.reduceMul, Nat.reduceSub, Nat.reduceLeDiff, ↓reduceIte, reduceCtorEq, Int.reduceAdd, Int.reduceSub, Int.reduceMul, Int.reduceNeg, Int.reduceToNat, List.reduceReplicate, String.reduceEq, e1, e2]
  intro rw hrw; dsimp only at hrw
  have hrs' := hrs.2.2
  have hrw' : H rw = none := Sub.lo (by repeat (first | exact Sub.refl _ | assumption | refine Sub.up ?_ (by assumption) _)) hrw
  have e3 : ¬ ra = rw := fun e => by subst e; simp [upd, e1] at hrw
  have e4 : ¬ rw = ra := fun e => e3 e.symm
  have e5 : ¬ rs = rw := fun e => by subst e; simp [upd, e2] at hrw
  have e6 : ¬ rw = rs := fun e => e5 e.symm
  simp (disch := omega) only [go_sem, Nat.reduceEqDiff, Nat.reduceAdd, Nat.reduceMul, Nat.reduceSub, Nat.reduceLeDiff, ↓reduceIte, reduceCtorEq, Int.reduceAdd, Int.reduceSub, Int.reduceMul, Int.reduceNeg, Int.reduceToNat, List.reduceReplicate, String.reduceEq, e1, e2, e3, e4, e5, e6, hG0, kinds_whole, dKinds_length]
  refine (indexFunc_kind G _ (fun k => decide (k.1 = wordOf (restOf (restOf t)) ∧ wordOf (restOf (restOf t)) ≠ [])) kindT 67 [] [.optr rw 0] (by rw [kindT_length]; omega) fun x _ => act1_spec G _ x _ rw 9 (by simp [upd])).mono ?_
  rintro _ H' ⟨rfl, rfl⟩
  rw [show idxF (fun k : List UInt8 × Nat => decide (k.1 = wordOf (restOf (restOf t)) ∧ wordOf (restOf (restOf t)) ≠ [])) kindT = kindIx (wordOf (restOf (restOf t))) from rfl]
  have hkx := kindIx_lt (wordOf (restOf (restOf t)))
  have hlp := fun y (h : LineOf y line) => line_parse h ht
  generalize kindIx (wordOf (restOf (restOf t))) = k at hkx hlp ⊢
  have bad0 : (pI (wordOf t)).isSome = false → ∀ y, ¬ LineOf y line := fun h y hy => by rw [(hlp y hy).1] at h; cases h
  have bad1 : (pI (wordOf (restOf t))).isSome = false → ∀ y, ¬ LineOf y line := fun h y hy => by rw [(hlp y hy).2.1] at h; cases h
  have hkind : ∀ y, LineOf y line → 1 ≤ k ∧ k < 28 := fun y hy => by rw [(hlp y hy).2.2.1]; exact validA_kind hy.2.1
  have htask : ∀ y, LineOf y line → 0 ≤ v2 ∧ v2 < 32 := fun y hy => by
    rw [hv2 _ (hlp y hy).2.1]
    have := hy.2.1
    simp only [validA, actOk, Bool.and_eq_true, decide_eq_true_eq] at this
    omega
  cases p1 : pI (wordOf t) with
  | none =>
    have bad := bad0 (by rw [p1]; rfl)
    simp (disch := omega) only [go_sem, Nat.reduceEqDiff, Nat.reduceAdd, Nat.reduceMul, Nat.reduceSub, Nat.reduceLeDiff, ↓reduceIte, reduceCtorEq, Int.reduceAdd, Int.reduceSub, Int.reduceMul, Int.reduceNeg, Int.reduceToNat, List.reduceReplicate, String.reduceEq, e1, e2, e3, e4, e5, e6, p1, Option.isSome_none, Bool.false_and]
    exact DFin.sub (H' := H) (by repeat (first | exact Sub.refl _ | assumption | refine Sub.up ?_ (by assumption) _)) (DFin.refl ⟨⟨⟨v1, 0, 0, 0, 0, 0⟩, false, rfl, by simp, fun ⟨y, hy⟩ => (bad y hy).elim⟩, rfl⟩)
  | some n1 =>
  cases p2 : pI (wordOf (restOf t)) with
  | none =>
    have bad := bad1 (by rw [p2]; rfl)
    simp (disch := omega) only [go_sem, Nat.reduceEqDiff, Nat.reduceAdd, Nat.reduceMul, Nat.reduceSub, Nat.reduceLeDiff, ↓reduceIte, reduceCtorEq, Int.reduceAdd, Int.reduceSub, Int.reduceMul, Int.reduceNeg, Int.reduceToNat, List.reduceReplicate, String.reduceEq, e1, e2, e3, e4, e5, e6, p1, p2, Option.isSome_none, Bool.and_false]
    exact DFin.sub (H' := H) (by repeat (first | exact Sub.refl _ | assumption | refine Sub.up ?_ (by assumption) _)) (DFin.refl ⟨⟨⟨v1, 0, 0, 0, 0, 0⟩, false, rfl, by simp, fun ⟨y, hy⟩ => (bad y hy).elim⟩, rfl⟩)
  | some n2 =>
  obtain rfl := hv1 n1 p1
  obtain rfl := hv2 n2 p2
  have w1 := pI_i64 p1
  have w2 := pI_i64 p2
  by_cases c1 : k < 0
  · simp (disch := omega) only [go_sem, Nat.reduceEqDiff, Nat.reduceAdd, Nat.reduceMul, Nat.reduceSub, Nat.reduceLeDiff, ↓reduceIte, reduceCtorEq, Int.reduceAdd, Int.reduceSub, Int.reduceMul, Int.reduceNeg, Int.reduceToNat, List.reduceReplicate, String.reduceEq, e1, e2, e3, e4, e5, e6, p1, p2]
    exact DFin.sub (H' := H) (by repeat (first | exact Sub.refl _ | assumption | refine Sub.up ?_ (by assumption) _)) (DFin.refl ⟨⟨⟨v1, 0, 0, 0, 0, 0⟩, false, rfl, by simp, fun ⟨y, hy⟩ => by have := hkind y hy; omega⟩, rfl⟩)
  by_cases c2 : v2 < 0
  · simp (disch := omega) only [go_sem, Nat.reduceEqDiff, Nat.reduceAdd, Nat.reduceMul, Nat.reduceSub, Nat.reduceLeDiff, ↓reduceIte, reduceCtorEq, Int.reduceAdd, Int.reduceSub, Int.reduceMul, Int.reduceNeg, Int.reduceToNat, List.reduceReplicate, String.reduceEq, e1, e2, e3, e4, e5, e6, p1, p2]
    exact DFin.sub (H' := H) (by repeat (first | exact Sub.refl _ | assumption | refine Sub.up ?_ (by assumption) _)) (DFin.refl ⟨⟨⟨v1, 0, 0, 0, 0, 0⟩, false, rfl, by simp, fun ⟨y, hy⟩ => by have := htask y hy; omega⟩, rfl⟩)
  by_cases c3 : 32 ≤ v2
  · simp (disch := omega) only [go_sem, Nat.reduceEqDiff, Nat.reduceAdd, Nat.reduceMul, Nat.reduceSub, Nat.reduceLeDiff, ↓reduceIte, reduceCtorEq, Int.reduceAdd, Int.reduceSub, Int.reduceMul, Int.reduceNeg, Int.reduceToNat, List.reduceReplicate, String.reduceEq, e1, e2, e3, e4, e5, e6, p1, p2]
    exact DFin.sub (H' := H) (by repeat (first | exact Sub.refl _ | assumption | refine Sub.up ?_ (by assumption) _)) (DFin.refl ⟨⟨⟨v1, 0, 0, 0, 0, 0⟩, false, rfl, by simp, fun ⟨y, hy⟩ => by have := htask y hy; omega⟩, rfl⟩)
  have hkw : IntKind.u8.wrap k = k := by rw [IntKind.wrap_u8]; omega
  simp (disch := omega) only [go_sem, Nat.reduceEqDiff, Nat.reduceAdd, Nat.reduceMul, Nat.reduceSub, Nat.reduceLeDiff, ↓reduceIte, reduceCtorEq, Int.reduceAdd, Int.reduceSub, Int.reduceMul, Int.reduceNeg, Int.reduceToNat, List.reduceReplicate, String.reduceEq, e1, e2, e3, e4, e5, e6, p1, p2, hkw]
  intro rp hrp; dsimp only at hrp
  have hrp' : H rp = none := Sub.lo (by repeat (first | exact Sub.refl _ | assumption | refine Sub.up ?_ (by assumption) _)) hrp
  have e7 : ¬ ra = rp := fun e => by subst e; simp [upd] at hrp
  have e8 : ¬ rp = ra := fun e => e7 e.symm
  have e9 : ¬ rs = rp := fun e => by subst e; simp [upd, e2, e5] at hrp
  have e10 : ¬ rp = rs := fun e => e9 e.symm
  simp (disch := omega) only [go_sem, Nat.reduceEqDiff, Nat.reduceAdd, Nat.reduceMul, Nat.reduceSub, Nat.reduceLeDiff, ↓reduceIte, reduceCtorEq, Int.reduceAdd, Int.reduceSub, Int.reduceMul, Int.reduceNeg, Int.reduceToNat, List.reduceReplicate, String.reduceEq, e1, e2, e3, e4, e5, e6, e7, e8, e9, e10]
  obtain ⟨r3, hr3e⟩ : ∃ r3, restOf (restOf (restOf t)) = r3 := ⟨_, rfl⟩
  obtain ⟨m, hm⟩ : ∃ m, (kindAt k).2 = m := ⟨_, rfl⟩
  have hm3 : m ≤ 3 := by rw [← hm]; exact kindAt_le k
  rw [hr3e] at hr3 hlp
  obtain ⟨I, hI⟩ : ∃ I : Nat → (Nat → DVal) → DHeap → Prop, ∀ i env heap, I i env heap ↔ (env 0 = .str line ∧ env 2 = .optr ra 0 ∧ env 4 = .optr rs 0 ∧ env 5 = .func (.func 64) [.optr rs 0] [] ∧ env 8 = dI k ∧ env 53 = .oslice 1 rp 0 3 3 ∧ env 54 = dI 3 ∧ env 55 = dI i ∧ i ≤ 3 ∧ Sub H heap ∧ heap rp = some (.cells [.optr ra 3, .optr ra 4, .optr ra 5] 105) ∧
      heap rs = some (dScan (restN (min i m) r3) (okN r3 (min i m))) ∧ ∃ fs, FilledN r3 (min i m) fs ∧ heap ra = some (.cells (dI v1 :: dI v2 :: .int .u8 k :: fs.map dI) 37)) := ⟨_, fun _ _ _ => Iff.rfl⟩
  refine DLoop.run I (fun i => 3 - i) 0 ((hI _ _ _).2 ?_) ?_
  · simp (disch := omega) only [go_sem, Nat.reduceEqDiff, Nat.reduceAdd, Nat.reduceMul, Nat.reduceSub, Nat.reduceLeDiff, ↓reduceIte, reduceCtorEq, Int.reduceAdd, Int.reduceSub, Int.reduceMul, Int.reduceNeg, Int.reduceToNat, List.reduceReplicate, String.reduceEq, e1, e2, e3, e4, e5, e6, e7, e8, e9, e10, p1, p2, hr3e]
    (repeat' apply And.intro) <;> (try first | rfl | assumption | omega)
    · exact (by repeat (first | exact Sub.refl _ | assumption | refine Sub.up ?_ (by assumption) _))
    · exact ⟨[0, 0, 0], ⟨rfl, fun j hj => by omega, fun j _ hj => by have : j = 0 ∨ j = 1 ∨ j = 2 := (by omega); rcases this with rfl | rfl | rfl <;> rfl⟩, rfl⟩
  · intro i env heap hi
    obtain ⟨h0, h2, h4, h5, h8, h53, h54, h55, hi, hsub, hcp, hcs, fs, hfs, hca⟩ := (hI _ _ _).1 hi
    have hk0 := (dKinds_at k (by omega) (by omega)).2
    rw [hm] at hk0
    by_cases hlt : i < 3
    · have hp : [DVal.optr ra 3, .optr ra 4, .optr ra 5][i]? = some (.optr ra (i + 3)) := by
        have : i = 0 ∨ i = 1 ∨ i = 2 := by omega
        rcases this with rfl | rfl | rfl <;> rfl
      by_cases him : i < m
      · have hmi : min i m = i := by omega
        have hmi2 : min (i + 1) m = i + 1 := by omega
        rw [hmi] at hcs hfs
        have hl0 := restN_len hrest r3 i
        simp (disch := omega) only [go_sem, Nat.reduceEqDiff, Nat.reduceAdd, Nat.reduceMul, Nat.reduceSub, Nat.reduceLeDiff, ↓reduceIte, reduceCtorEq, Int.reduceAdd, Int.reduceSub, Int.reduceMul, Int.reduceNeg, Int.reduceToNat, List.reduceReplicate, String.reduceEq, h0, h2, h4, h5, h8, h53, h54, h55, hcp, hcs, hca, hp, hG0, dKinds_length, hk0]
        refine (number35_spec hG _ rs _ _ hcs (by omega)).mono ?_
        rintro _ H' ⟨v, hv, rfl, rfl⟩
        simp (disch := omega) only [go_sem, Nat.reduceEqDiff, Nat.reduceAdd, Nat.reduceMul, Nat.reduceSub, Nat.reduceLeDiff, ↓reduceIte, reduceCtorEq, Int.reduceAdd, Int.reduceSub, Int.reduceMul, Int.reduceNeg, Int.reduceToNat, List.reduceReplicate, String.reduceEq, h0, h2, h4, h5, h8, h53, h54, h55, hcp, hcs, hca, hp, e1, e2, hfs.1, splice3]
        refine ⟨i + 1, _, GhostS.refl _, (hI _ _ _).2 ?_, by omega⟩
        simp (disch := omega) only [go_sem, Nat.reduceEqDiff, Nat.reduceAdd, Nat.reduceMul, Nat.reduceSub, Nat.reduceLeDiff, ↓reduceIte, reduceCtorEq, Int.reduceAdd, Int.reduceSub, Int.reduceMul, Int.reduceNeg, Int.reduceToNat, List.reduceReplicate, String.reduceEq, h0, h2, h4, h5, h8, h53, h54, h55, hcp, hcs, hca, hp, e1, e2, e8, e10, hmi2]
        (repeat' apply And.intro) <;> (try first | rfl | assumption | omega)
        · exact (by repeat (first | exact Sub.refl _ | assumption | refine Sub.up ?_ (by assumption) _))
        · simp [restN, okN_succ, pN]
        · exact ⟨fs.set i v, hfs.set v hv hlt, by rw [show splice (fs.map dI) i [DVal.int .i64 v] = _ from splice_setA dI fs i v (by rw [hfs.1]; omega)]⟩
      · have hmi : min i m = m := by omega
        have hmi2 : min (i + 1) m = m := by omega
        rw [hmi] at hcs hfs
        simp (disch := omega) only [go_sem, Nat.reduceEqDiff, Nat.reduceAdd, Nat.reduceMul, Nat.reduceSub, Nat.reduceLeDiff, ↓reduceIte, reduceCtorEq, Int.reduceAdd, Int.reduceSub, Int.reduceMul, Int.reduceNeg, Int.reduceToNat, List.reduceReplicate, String.reduceEq, h0, h2, h4, h5, h8, h53, h54, h55, hcp, hcs, hca, hp, hG0, dKinds_length, hk0]
        refine ⟨i + 1, _, GhostS.refl _, (hI _ _ _).2 ?_, by omega⟩
        simp (disch := omega) only [go_sem, Nat.reduceEqDiff, Nat.reduceAdd, Nat.reduceMul, Nat.reduceSub, Nat.reduceLeDiff, ↓reduceIte, reduceCtorEq, Int.reduceAdd, Int.reduceSub, Int.reduceMul, Int.reduceNeg, Int.reduceToNat, List.reduceReplicate, String.reduceEq, h0, h2, h4, h5, h8, h53, h54, h55, hcp, hcs, hca, hp, e1, e2, e8, e10, hmi2]
        (repeat' apply And.intro) <;> (try first | rfl | assumption | omega)
        exact ⟨fs, hfs, rfl⟩
    · have hi3 : i = 3 := by omega
      subst hi3
      have hmi : min 3 m = m := by omega
      rw [hmi] at hcs hfs
      obtain ⟨f0, f1, f2, rfl⟩ : ∃ f0 f1 f2, fs = [f0, f1, f2] := by
        match fs, hfs.1 with
        | [a, b, c], _ => exact ⟨a, b, c, rfl⟩
      simp (disch := omega) only [go_sem, Nat.reduceEqDiff, Nat.reduceAdd, Nat.reduceMul, Nat.reduceSub, Nat.reduceLeDiff, ↓reduceIte, reduceCtorEq, Int.reduceAdd, Int.reduceSub, Int.reduceMul, Int.reduceNeg, Int.reduceToNat, List.reduceReplicate, String.reduceEq, h0, h2, h4, h5, h8, h53, h54, h55]
      refine dwp_draws (by kernel_rfl) (.take 0 (.take 1 (.take 2 (.take 3 (.take 4 (.take 5 (.take 6 (.go 7 [4, 0] (.take 8 (.take 9 (.take 10 (.take 13 (.go 11 [6, 4, 0] (.take 12 (.take 14 (.take 15 (.go 16 [] (.take 17 .done)))))))))))))))))) (by kernel_rfl) ?_
      obtain ⟨x, hx⟩ : ∃ x : Act, x = ⟨v1, v2, k, f0, f1, f2⟩ := ⟨_, rfl⟩
      have hxa : (dI v1 :: dI v2 :: .int .u8 k :: List.map dI [f0, f1, f2]) = dAct x := by rw [hx]; rfl
      have hdone : ∀ y, LineOf y line → y = x ∧ okN r3 m = true := fun y hy => by
        obtain ⟨q1, q2, q3, q4⟩ := hlp y hy
        rw [p1] at q1; rw [p2] at q2
        cases q1; cases q2
        rw [hx, ← hm]
        exact act_done hy rfl rfl q3.symm q4 (by rw [hm]; exact hfs)
      rw [hxa] at hca
      have hxl : (dAct x).length = 6 := rfl
      have hxt : (dAct x).take 6 = dAct x := rfl
      have hxd : (dAct x).drop 6 = [] := rfl
      have hxo : ((dAct x).all fun x => x.one) = true := rfl
      cases ho : okN r3 m with
      | false =>
        simp (disch := omega) only [go_sem, Nat.reduceEqDiff, Nat.reduceAdd, Nat.reduceMul, Nat.reduceSub, Nat.reduceLeDiff, ↓reduceIte, reduceCtorEq, Int.reduceAdd, Int.reduceSub, Int.reduceMul, Int.reduceNeg, Int.reduceToNat, List.reduceReplicate, String.reduceEq, h0, h2, h4, h5, h8, h53, h54, h55, hca, hcs, ho, hxl, hxt, hxd, hxo, List.append_nil]
        exact DFin.sub (H' := H) (by repeat (first | exact Sub.refl _ | assumption | refine Sub.up ?_ (by assumption) _)) (DFin.refl ⟨⟨x, false, rfl, by simp, fun ⟨y, hy⟩ => by rw [(hdone y hy).2] at ho; cases ho⟩, rfl⟩)
      | true =>
        obtain ⟨i0, i1, i2⟩ := filled_w hfs ho
        have hxw : ActW x := by rw [hx]; exact ⟨by show 0 ≤ k; omega, by show k < 256; omega, w1, w2, i0, i1, i2⟩
        simp (disch := omega) only [go_sem, Nat.reduceEqDiff, Nat.reduceAdd, Nat.reduceMul, Nat.reduceSub, Nat.reduceLeDiff, ↓reduceIte, reduceCtorEq, Int.reduceAdd, Int.reduceSub, Int.reduceMul, Int.reduceNeg, Int.reduceToNat, List.reduceReplicate, String.reduceEq, h0, h2, h4, h5, h8, h53, h54, h55, hca, hcs, ho, hxl, hxt, hxd, hxo, List.append_nil]
        refine (valid_spec G hG0 _ x hxw).mono ?_
        rintro _ heap ⟨rfl, rfl⟩
        cases hv : validA x with
        | false =>
          simp (disch := omega) only [go_sem, Nat.reduceEqDiff, Nat.reduceAdd, Nat.reduceMul, Nat.reduceSub, Nat.reduceLeDiff, ↓reduceIte, reduceCtorEq, Int.reduceAdd, Int.reduceSub, Int.reduceMul, Int.reduceNeg, Int.reduceToNat, List.reduceReplicate, String.reduceEq, h0, h2, h4, h5, h8, h53, h54, h55, hca, hcs, ho, hxl, hxt, hxd, hxo, List.append_nil]
          exact DFin.sub (H' := H) (by repeat (first | exact Sub.refl _ | assumption | refine Sub.up ?_ (by assumption) _)) (DFin.refl ⟨⟨x, false, rfl, by simp, fun ⟨y, hy⟩ => by have := hy.2.1; rw [(hdone y hy).1, hv] at this; cases this⟩, rfl⟩)
        | true =>
          simp (disch := omega) only [go_sem, Nat.reduceEqDiff, Nat.reduceAdd, Nat.reduceMul, Nat.reduceSub, Nat.reduceLeDiff, ↓reduceIte, reduceCtorEq, Int.reduceAdd, Int.reduceSub, Int.reduceMul, Int.reduceNeg, Int.reduceToNat, List.reduceReplicate, String.reduceEq, h0, h2, h4, h5, h8, h53, h54, h55, hca, hcs, ho, hxl, hxt, hxd, hxo, List.append_nil]
          refine (put_spec (H0 := heap) hG0 hG4 (l := []) x hxw (validA_kind hv) (by simp) (OwnJ.nil _ _ (Sub.refl _))).mono ?_
          rintro _ H1 ⟨v, rfl, hvv⟩
          have k1 := OwnJ.keep hvv hca
          have k2 := OwnJ.keep hvv hcs
          rw [List.nil_append] at hvv
          have hsub1 := hsub.trans (OwnJ.sub hvv)
          simp (disch := omega) only [go_sem, Nat.reduceEqDiff, Nat.reduceAdd, Nat.reduceMul, Nat.reduceSub, Nat.reduceLeDiff, ↓reduceIte, reduceCtorEq, Int.reduceAdd, Int.reduceSub, Int.reduceMul, Int.reduceNeg, Int.reduceToNat, List.reduceReplicate, String.reduceEq, h0, h2, h4, h5, h8, h53, h54, h55, hca, hcs, ho, hxl, hxt, hxd, hxo, List.append_nil, hvv.strSrc, k1, k2, Option.bind_some]
          refine DFin.sub (H' := H) (by repeat (first | exact Sub.refl _ | assumption | refine Sub.up ?_ (by assumption) _)) (DFin.refl ⟨⟨x, decide (lineT x = line), rfl, fun h => ⟨hxw, hv, of_decide_eq_true h⟩, fun ⟨y, hy⟩ => ?_⟩, rfl⟩)
          rw [← (hdone y hy).1]; exact decide_eq_true hy.2.2
end Go.Dl

-- Chapter 35: reading a log: the plain laws.
namespace Go.Dl
open Go Go.Proofs
set_option maxRecDepth 10000

/-- The act whose text this is (without the line feed). -/
def TextOf (x : Act) (s : List UInt8) : Prop := ActW x ∧ validA x = true ∧ oneT x = s
theorem textOf_line (x : Act) (s : List UInt8) : TextOf x s ↔ LineOf x (s ++ [10]) := by
  simp only [TextOf, LineOf, lineT, List.append_cancel_right_eq]
theorem TextOf.uniq {x y : Act} {s : List UInt8} (hx : TextOf x s) (hy : TextOf y s) : x = y := by
  have lx := (textOf_line _ _).1 hx
  have ly := (textOf_line _ _).1 hy
  obtain ⟨a1, a2, a3, a4⟩ := line_parse lx rfl
  obtain ⟨b1, b2, b3, b4⟩ := line_parse ly rfl
  rw [a1] at b1; rw [a2] at b2; rw [a3] at b3
  simp only [Option.some.injEq] at b1 b2
  have hf : FilledN (restOf (restOf (restOf (Lib.trimSuffix (s ++ [10]) [10])))) (kindAt y.kind).2 [y.a, y.b, y.n] := by
    refine ⟨rfl, fun j hj n hn => ?_, fun j hj hj3 => ?_⟩
    · have hj3 : j < 3 := by have := kindAt_le y.kind; omega
      have hl : j < [y.a, y.b, y.n].length := by simpa using hj3
      have := b4 j [y.a, y.b, y.n][j] (by rw [List.getElem?_take, if_pos hj, List.getElem?_eq_getElem hl])
      rw [this] at hn; cases hn
      exact List.getElem?_eq_getElem hl
    · have hl : j < [y.a, y.b, y.n].length := by simpa using hj3
      rw [List.getElem?_eq_getElem hl]
      have hv := hy.2.1
      simp only [validA, Bool.and_eq_true, Bool.not_eq_true'] at hv
      have h := hv.2
      simp only [nz, List.any_eq_false, decide_eq_true_eq, Decidable.not_not] at h
      rw [h [y.a, y.b, y.n][j] (List.mem_of_getElem? (i := j - (kindAt y.kind).2) (by rw [List.getElem?_drop, show (kindAt y.kind).2 + (j - (kindAt y.kind).2) = j by omega, List.getElem?_eq_getElem hl]))]
  exact (act_done lx b1 b2 b3 a4 hf).1
open Classical in
noncomputable def actOf (s : List UInt8) : Option Act := if h : ∃ x, TextOf x s then some (Classical.choose h) else none
theorem actOf_some {x : Act} {s : List UInt8} (h : TextOf x s) : actOf s = some x := by
  have he : ∃ x, TextOf x s := ⟨x, h⟩
  rw [actOf, dif_pos he, (Classical.choose_spec he).uniq h]
theorem actOf_none {s : List UInt8} (h : ∀ x, ¬ TextOf x s) : actOf s = none := by
  rw [actOf, dif_neg fun ⟨x, hx⟩ => h x hx]
theorem actOf_iff {x : Act} {s : List UInt8} : actOf s = some x ↔ TextOf x s := by
  constructor
  · intro h
    unfold actOf at h
    split at h
    · rename_i he
      cases h; exact Classical.choose_spec he
    · cases h
  · exact actOf_some

/-- Is the act earlier than the last one of these? -/
def early (l : List Act) (x : Act) : Bool := match l.getLast? with | some y => decide (x.time < y.time) | none => false
/-- What one line does. -/
noncomputable def stepR (line : List UInt8) (acc : List Act) : Option (List Act) :=
  match actOf line with
  | some x => if acc.length = 100000 ∨ early acc x = true then none else some (acc ++ [x])
  | none => none
/-- Reading on: what is left, what was read. -/
noncomputable def rdL (s : List UInt8) (acc : List Act) : List Act × Int × Int :=
  if h : s = [] then (acc, 0, 0)
  else match hk : s.findIdx? (· = 10) with
    | none => ([], (acc.length : Int) + 1, 350)
    | some k => match stepR (s.take k) acc with
      | none => ([], (acc.length : Int) + 1, 350)
      | some acc' => rdL (s.drop (k + 1)) acc'
termination_by s.length
decreasing_by
  have := (List.findIdx?_eq_some_iff_getElem.1 hk).1
  simp; omega
noncomputable def readL (s : List UInt8) : List Act × Int × Int := if 8388608 < s.length then ([], 0, 3) else rdL s []

theorem rdL_nil (acc : List Act) : rdL [] acc = (acc, 0, 0) := by rw [rdL]; simp
theorem rdL_none {s : List UInt8} (h : s ≠ []) (hk : ∀ c ∈ s, c ≠ 10) (acc : List Act) : rdL s acc = ([], (acc.length : Int) + 1, 350) := by
  have hn : s.findIdx? (· = 10) = none := by
    rw [List.findIdx?_eq_none_iff]; intro c hc; simp [hk c hc]
  rw [rdL, dif_neg h]
  split
  · rfl
  · rename_i k e; rw [hn] at e; cases e
theorem findIdx_lf {w r : List UInt8} (h : ∀ c ∈ w, c ≠ 10) : (w ++ 10 :: r).findIdx? (· = 10) = some w.length := by
  rw [List.findIdx?_eq_some_iff_getElem]
  refine ⟨by simp, by simp, fun j hj => ?_⟩
  rw [List.getElem_append_left hj]
  simp [h _ (List.getElem_mem hj)]
theorem rdL_line {w r : List UInt8} (h : ∀ c ∈ w, c ≠ 10) (acc : List Act) : rdL (w ++ 10 :: r) acc = match stepR w acc with | none => ([], (acc.length : Int) + 1, 350) | some acc' => rdL r acc' := by
  have hn := findIdx_lf (r := r) h
  rw [rdL, dif_neg (by simp)]
  split
  · rename_i e; rw [hn] at e; cases e
  · rename_i k e
    rw [hn] at e; cases e
    have e1 : (w ++ 10 :: r).take w.length = w := by simp
    have e2 : (w ++ 10 :: r).drop (w.length + 1) = r := by
      rw [← List.drop_drop, List.drop_left]; rfl
    rw [e1, e2]

/-- A walk over runes: no line feed is missed. -/
theorem decodeN_lf (n b0 b1 b2 b3 : Nat) (hn : 1 ≤ n) : 1 ≤ (Lib.decodeN n b0 b1 b2 b3).2 ∧ (Lib.decodeN n b0 b1 b2 b3).2 ≤ n ∧ (Lib.decodeN n b0 b1 b2 b3).2 ≤ 4 ∧ ((Lib.decodeN n b0 b1 b2 b3).1 = 10 ↔ b0 = 10) ∧ (b0 = 10 → (Lib.decodeN n b0 b1 b2 b3).2 = 1) ∧
    (2 ≤ (Lib.decodeN n b0 b1 b2 b3).2 → b1 ≠ 10) ∧ (3 ≤ (Lib.decodeN n b0 b1 b2 b3).2 → b2 ≠ 10) ∧ (4 ≤ (Lib.decodeN n b0 b1 b2 b3).2 → b3 ≠ 10) := by
  unfold Lib.decodeN
  split
  · dsimp only; omega
  split
  · split <;> (dsimp only; omega)
  split
  · split <;> (dsimp only; omega)
  split
  · split <;> (dsimp only; omega)
  · dsimp only; omega
theorem rune_lf (l : List UInt8) (pos : Nat) (h : pos < l.length) : 1 ≤ (runeAt l pos).2 ∧ pos + (runeAt l pos).2 ≤ l.length ∧ ((runeAt l pos).1 = 10 ↔ l[pos] = 10) ∧ (l[pos] = 10 → (runeAt l pos).2 = 1) ∧
    ∀ j, pos < j → j < pos + (runeAt l pos).2 → l[j]? ≠ some 10 := by
  have hb : ∀ j, ((ByteArray.mk ⟨l⟩).get! j).toNat = (l.getD j 0).toNat := fun j => by
    have : (ByteArray.mk ⟨l⟩).get! j = l.getD j 0 := by
      show (Array.mk l)[j]! = _
      simp [List.getD, getElem!_def]
      cases l[j]? <;> rfl
    rw [this]
  have hd : runeAt l pos = Lib.decodeN (l.length - pos) (l.getD pos 0).toNat (l.getD (pos + 1) 0).toNat (l.getD (pos + 2) 0).toNat (l.getD (pos + 3) 0).toNat := by
    rw [runeAt, Lib.decode_at, hb, hb, hb, hb]; rfl
  have e0 : l.getD pos 0 = l[pos] := by simp [List.getD, h]
  obtain ⟨h1, h2, h2', h3, h4, h5, h6, h7⟩ := decodeN_lf (l.length - pos) (l.getD pos 0).toNat (l.getD (pos + 1) 0).toNat (l.getD (pos + 2) 0).toNat (l.getD (pos + 3) 0).toNat (by omega)
  rw [← hd] at h1 h2 h2' h3 h4 h5 h6 h7
  have ten : ∀ c : UInt8, c.toNat = 10 ↔ c = 10 := fun c => ⟨fun h => UInt8.toNat_inj.1 (by rw [h]; rfl), fun h => by rw [h]; rfl⟩
  rw [e0, ten] at h3 h4
  refine ⟨h1, by omega, h3, h4, fun j hj hj2 hc => ?_⟩
  have hg : (l.getD j 0).toNat = 10 := by rw [List.getD, hc]; rfl
  have : j = pos + 1 ∨ j = pos + 2 ∨ j = pos + 3 := by omega
  rcases this with rfl | rfl | rfl
  · exact h5 (by omega) hg
  · exact h6 (by omega) hg
  · exact h7 (by omega) hg
end Go.Dl
