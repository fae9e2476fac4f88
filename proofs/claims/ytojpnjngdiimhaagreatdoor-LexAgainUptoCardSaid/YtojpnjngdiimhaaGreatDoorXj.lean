/- The data level and the contracts of the functions that are reached (part 10). -/
import Derived.Test.YtojpnjngdiimhaaGreatDoorXi
set_option linter.unusedSimpArgs false
set_option linter.unusedVariables false
-- Chapter 2: the reference's Lines; LexTexts.
namespace Go.Dl
open Go Go.Proofs
set_option maxRecDepth 100000

def dLins (ls : List Lin) : DVal := .vslice (ls.flatMap dLin) ls.length
theorem linesD_arg {ls : List Lin} (h : ls.all okLin = false) : linesD ls = ([], 2) := by rw [linesD, h]; rfl
theorem linesD_any {ls : List Lin} (h : ls.all okLin = true) (h2 : ls.any longLin = true) : linesD ls = ([], 3) := by rw [linesD, h, h2]; rfl
theorem linesD_big {ls : List Lin} (h : ls.all okLin = true) (h2 : 65536 < (linesT ls).length) : linesD ls = ([], 3) := by rw [linesD, h, decide_eq_true h2, Bool.or_true]; rfl
theorem linesD_ok {ls : List Lin} (h : ls.all okLin = true) (h1 : ls.any longLin = false) (h2 : ¬ 65536 < (linesT ls).length) : linesD ls = (linesT ls, 0) := by rw [linesD, h, h1, decide_eq_false h2]; rfl
theorem all_no {ls : List Lin} {k : Nat} (hk : k < ls.length) (h : okLin ls[k] = false) : ls.all okLin = false := by
  rw [List.all_eq_false]
  exact ⟨ls[k], List.getElem_mem hk, by rw [h]; simp⟩
section
variable {G : Nat → DVal} {H : DHeap}
set_option maxHeartbeats 4000000 in
theorem rLines_spec (G : Nat → DVal) (H : DHeap) (ls : List Lin) (hl : ls.length ≤ 100000) (hL : ∀ x ∈ ls, x.l.length ≤ 100000) : DCalls Tryz.prog G 27 [dLins ls] H (DRet (.tuple [.str (linesD ls).1, dI (linesD ls).2]) H) := by
  refine dcalls_intro Tryz.func27 Tryz.call27 rfl (by kernel_rfl) ?_
  simp (disch := omega) only [go_sem, Nat.reduceEqDiff, Nat.reduceAdd, Nat.reduceMul, Nat.reduceSub, Nat.reduceLeDiff, ↓reduceIte, reduceCtorEq, Int.reduceAdd, Int.reduceSub, Int.reduceMul, Int.reduceNeg, Int.reduceToNat, List.reduceReplicate, String.reduceEq, dLins]
  obtain ⟨I, hI⟩ : ∃ I : Nat → (Nat → DVal) → DHeap → Prop, ∀ k env heap, I k env heap ↔ (env 0 = .vslice (ls.flatMap dLin) ls.length ∧ env 4 = dI k ∧ k ≤ ls.length ∧ (ls.take k).all okLin = true ∧ heap = H) := ⟨_, fun _ _ _ => Iff.rfl⟩
  refine DLoop.run I (fun k => ls.length - k) 0 ((hI _ _ _).2 ?_) ?_
  · simp (disch := omega) only [go_sem, Nat.reduceEqDiff, Nat.reduceAdd, Nat.reduceMul, Nat.reduceSub, Nat.reduceLeDiff, ↓reduceIte, reduceCtorEq, Int.reduceAdd, Int.reduceSub, Int.reduceMul, Int.reduceNeg, Int.reduceToNat, List.reduceReplicate, String.reduceEq]
    (repeat' apply And.intro) <;> (try first | rfl | assumption | omega)
  · intro k env hp hi
    obtain ⟨e0, e4, hk, hf, rfl⟩ := (hI _ _ _).1 hi
    have hfl := flat_len dLin_len ls
    by_cases hlt : k < ls.length
    · have hlt' : (k : Int) < (ls.length : Int) := by omega
      have g0 : (ls.flatMap dLin)[k * 2]? = some (dI ls[k].depth) := flat_get dLin_len ls k hlt 0 (by omega)
      have g1 : (ls.flatMap dLin)[k * 2 + 1]? = some (dToks ls[k].l) := flat_get dLin_len ls k hlt 1 (by omega)
      have hwd : IntKind.i64.wrap ((k : Int) + 1) = ((k + 1 : Nat) : Int) := by rw [IntKind.wrap_i64]; omega
      have hx := hL ls[k] (List.getElem_mem hlt)
      by_cases hd0 : ls[k].depth < 0
      · simp (disch := omega) only [go_sem, Nat.reduceEqDiff, Nat.reduceAdd, Nat.reduceMul, Nat.reduceSub, Nat.reduceLeDiff, ↓reduceIte, reduceCtorEq, Int.reduceAdd, Int.reduceSub, Int.reduceMul, Int.reduceNeg, Int.reduceToNat, List.reduceReplicate, String.reduceEq, e0, e4, hlt', hfl, g0, g1, hd0, Int.toNat_natCast]
        refine DFin.refl ⟨?_, rfl⟩
        rw [linesD_arg (all_no hlt (by rw [okLin, decide_eq_false (show ¬ 0 ≤ ls[k].depth by omega), Bool.and_false, Bool.false_and]))]
      · by_cases hd1 : 80 < ls[k].depth
        · simp (disch := omega) only [go_sem, Nat.reduceEqDiff, Nat.reduceAdd, Nat.reduceMul, Nat.reduceSub, Nat.reduceLeDiff, ↓reduceIte, reduceCtorEq, Int.reduceAdd, Int.reduceSub, Int.reduceMul, Int.reduceNeg, Int.reduceToNat, List.reduceReplicate, String.reduceEq, e0, e4, hlt', hfl, g0, g1, hd0, hd1, Int.toNat_natCast]
          refine DFin.refl ⟨?_, rfl⟩
          rw [linesD_arg (all_no hlt (by rw [okLin, decide_eq_false (show ¬ ls[k].depth ≤ 80 by omega), Bool.and_false]))]
        · simp (disch := omega) only [go_sem, Nat.reduceEqDiff, Nat.reduceAdd, Nat.reduceMul, Nat.reduceSub, Nat.reduceLeDiff, ↓reduceIte, reduceCtorEq, Int.reduceAdd, Int.reduceSub, Int.reduceMul, Int.reduceNeg, Int.reduceToNat, List.reduceReplicate, String.reduceEq, e0, e4, hlt', hfl, g0, g1, hd0, hd1, Int.toNat_natCast]
          refine (rfine_spec G _ ls[k].l (by omega)).mono ?_
          rintro _ H1 ⟨rfl, rfl⟩
          cases hj : fineT ls[k].l with
          | false =>
            simp (disch := omega) only [go_sem, Nat.reduceEqDiff, Nat.reduceAdd, Nat.reduceMul, Nat.reduceSub, Nat.reduceLeDiff, ↓reduceIte, reduceCtorEq, Int.reduceAdd, Int.reduceSub, Int.reduceMul, Int.reduceNeg, Int.reduceToNat, List.reduceReplicate, String.reduceEq, e0, e4]
            refine DFin.refl ⟨?_, rfl⟩
            rw [linesD_arg (all_no hlt (by rw [okLin, hj]; rfl))]
          | true =>
            have hok : okLin ls[k] = true := by rw [okLin, hj, decide_eq_true (show 0 ≤ ls[k].depth by omega), decide_eq_true (show ls[k].depth ≤ 80 by omega)]; rfl
            simp (disch := omega) only [go_sem, Nat.reduceEqDiff, Nat.reduceAdd, Nat.reduceMul, Nat.reduceSub, Nat.reduceLeDiff, ↓reduceIte, reduceCtorEq, Int.reduceAdd, Int.reduceSub, Int.reduceMul, Int.reduceNeg, Int.reduceToNat, List.reduceReplicate, String.reduceEq, e0, e4]
            refine ⟨k + 1, _, GhostS.refl _, (hI _ _ _).2 ?_, by omega⟩
            simp (disch := omega) only [go_sem, Nat.reduceEqDiff, Nat.reduceAdd, Nat.reduceMul, Nat.reduceSub, Nat.reduceLeDiff, ↓reduceIte, reduceCtorEq, Int.reduceAdd, Int.reduceSub, Int.reduceMul, Int.reduceNeg, Int.reduceToNat, List.reduceReplicate, String.reduceEq, e0, e4, hwd]
            (repeat' apply And.intro) <;> (try first | rfl | assumption | omega)
            exact take_all2 hf hlt hok
    · have : k = ls.length := by omega
      subst this
      rw [List.take_length] at hf
      simp (disch := omega) only [go_sem, Nat.reduceEqDiff, Nat.reduceAdd, Nat.reduceMul, Nat.reduceSub, Nat.reduceLeDiff, ↓reduceIte, reduceCtorEq, Int.reduceAdd, Int.reduceSub, Int.reduceMul, Int.reduceNeg, Int.reduceToNat, List.reduceReplicate, String.reduceEq, e0, e4]
      obtain ⟨J, hJ⟩ : ∃ J : Nat → (Nat → DVal) → DHeap → Prop, ∀ m env heap, J m env heap ↔ (env 0 = .vslice (ls.flatMap dLin) ls.length ∧ env 5 = .str (linesT (ls.take m)) ∧ env 6 = dI m ∧ m ≤ ls.length ∧ (ls.take m).any longLin = false ∧ heap = hp) := ⟨_, fun _ _ _ => Iff.rfl⟩
      refine DLoop.run J (fun m => ls.length - m) 0 ((hJ _ _ _).2 ?_) ?_
      · simp (disch := omega) only [go_sem, Nat.reduceEqDiff, Nat.reduceAdd, Nat.reduceMul, Nat.reduceSub, Nat.reduceLeDiff, ↓reduceIte, reduceCtorEq, Int.reduceAdd, Int.reduceSub, Int.reduceMul, Int.reduceNeg, Int.reduceToNat, List.reduceReplicate, String.reduceEq, e0]
        (repeat' apply And.intro) <;> (try first | rfl | assumption | omega)
      · intro m env hq hi
        obtain ⟨e0, e5, e6, hm, hany, rfl⟩ := (hJ _ _ _).1 hi
        by_cases hlt : m < ls.length
        · have hlt' : (m : Int) < (ls.length : Int) := by omega
          have g0 : (ls.flatMap dLin)[m * 2]? = some (dI ls[m].depth) := flat_get dLin_len ls m hlt 0 (by omega)
          have g1 : (ls.flatMap dLin)[m * 2 + 1]? = some (dToks ls[m].l) := flat_get dLin_len ls m hlt 1 (by omega)
          have hwm : IntKind.i64.wrap ((m : Int) + 1) = ((m + 1 : Nat) : Int) := by rw [IntKind.wrap_i64]; omega
          have hok : okLin ls[m] = true := List.all_eq_true.1 hf _ (List.getElem_mem hlt)
          have hx := hL ls[m] (List.getElem_mem hlt)
          have hok2 := hok
          simp only [okLin, Bool.and_eq_true, decide_eq_true_eq] at hok2
          obtain ⟨⟨hfine, hd0⟩, hd1⟩ := hok2
          obtain ⟨d, hd⟩ : ∃ d : Nat, ls[m].depth = d := ⟨ls[m].depth.toNat, by omega⟩
          rw [hd] at g0 hd0 hd1
          have hd80 : d ≤ 80 := by omega
          have hjl : (joinT ls[m].l).length ≤ 3300000 := by
            have := (joinR_len ls[m].l none hfine).2
            rw [joinT]; omega
          have htl := linesT_len (ls.take m) (List.all_eq_true.2 fun x hx => List.all_eq_true.1 hf x (List.mem_of_mem_take hx)) fun x hx => hL x (List.mem_of_mem_take hx)
          rw [List.length_take, Nat.min_eq_left hm] at htl
          have hlk := take_any (p := longLin) hlt
          have htk : linesT (ls.take (m + 1)) = linesT (ls.take m) ++ linT ls[m] := take_flat hlt
          have hlt2 : linT ls[m] = List.replicate (2 * d) 32 ++ joinT ls[m].l ++ [10] := by rw [linT, lineX, hd]; rfl
          have hlo : longLin ls[m] = decide (256 < 2 * (d : Int) + ((joinT ls[m].l).length : Int)) := by rw [longLin, hd]
          simp (disch := omega) only [go_sem, Nat.reduceEqDiff, Nat.reduceAdd, Nat.reduceMul, Nat.reduceSub, Nat.reduceLeDiff, ↓reduceIte, reduceCtorEq, Int.reduceAdd, Int.reduceSub, Int.reduceMul, Int.reduceNeg, Int.reduceToNat, List.reduceReplicate, String.reduceEq, e0, e5, e6, hlt']
          obtain ⟨Q, hQ⟩ : ∃ Q : Nat → (Nat → DVal) → DHeap → Prop, ∀ j env heap, Q j env heap ↔ (env 0 = .vslice (ls.flatMap dLin) ls.length ∧ env 5 = .str (linesT (ls.take m)) ∧ env 6 = dI m ∧ env 7 = .str (List.replicate (2 * j) 32) ∧ env 8 = dI j ∧ j ≤ d ∧ heap = hq) := ⟨_, fun _ _ _ => Iff.rfl⟩
          refine DLoop.run Q (fun j => d - j) 0 ((hQ _ _ _).2 ?_) ?_
          · simp (disch := omega) only [go_sem, Nat.reduceEqDiff, Nat.reduceAdd, Nat.reduceMul, Nat.reduceSub, Nat.reduceLeDiff, ↓reduceIte, reduceCtorEq, Int.reduceAdd, Int.reduceSub, Int.reduceMul, Int.reduceNeg, Int.reduceToNat, List.reduceReplicate, String.reduceEq, e0, e5, e6]
            (repeat' apply And.intro) <;> (try first | rfl | assumption | omega)
          · intro j env heap hi
            obtain ⟨e0, e5, e6, e7, e8, hj, rfl⟩ := (hQ _ _ _).1 hi
            have hrl : (List.replicate (2 * j) (32 : UInt8)).length = 2 * j := List.length_replicate
            by_cases hjd : j < d
            · have hjd' : (j : Int) < (d : Int) := by omega
              have hwj : IntKind.i64.wrap ((j : Int) + 1) = ((j + 1 : Nat) : Int) := by rw [IntKind.wrap_i64]; omega
              have hrs : List.replicate (2 * j) (32 : UInt8) ++ [32, 32] = List.replicate (2 * (j + 1)) 32 := by
                rw [show 2 * (j + 1) = 2 * j + 2 by omega, ← List.replicate_append_replicate]; rfl
              simp (disch := omega) only [go_sem, Nat.reduceEqDiff, Nat.reduceAdd, Nat.reduceMul, Nat.reduceSub, Nat.reduceLeDiff, ↓reduceIte, reduceCtorEq, Int.reduceAdd, Int.reduceSub, Int.reduceMul, Int.reduceNeg, Int.reduceToNat, List.reduceReplicate, String.reduceEq, e0, e5, e6, e7, e8, hlt', hfl, g0, g1, hjd', hrl, Int.toNat_natCast]
              refine ⟨j + 1, _, GhostS.refl _, (hQ _ _ _).2 ?_, by omega⟩
              simp (disch := omega) only [go_sem, Nat.reduceEqDiff, Nat.reduceAdd, Nat.reduceMul, Nat.reduceSub, Nat.reduceLeDiff, ↓reduceIte, reduceCtorEq, Int.reduceAdd, Int.reduceSub, Int.reduceMul, Int.reduceNeg, Int.reduceToNat, List.reduceReplicate, String.reduceEq, e0, e5, e6, e7, e8, hwj, hrs]
              (repeat' apply And.intro) <;> (try first | rfl | assumption | omega)
            · have : j = d := by omega
              subst this
              simp (disch := omega) only [go_sem, Nat.reduceEqDiff, Nat.reduceAdd, Nat.reduceMul, Nat.reduceSub, Nat.reduceLeDiff, ↓reduceIte, reduceCtorEq, Int.reduceAdd, Int.reduceSub, Int.reduceMul, Int.reduceNeg, Int.reduceToNat, List.reduceReplicate, String.reduceEq, e0, e5, e6, e7, e8, hlt', hfl, g0, g1, hrl, Int.toNat_natCast]
              refine (rjoined_spec G _ ls[m].l (by omega) hfine).mono ?_
              rintro _ H1 ⟨rfl, rfl⟩
              by_cases hbig : 256 < 2 * j + (joinT ls[m].l).length
              · have hbig' : (256 : Int) < ((2 * j + (joinT ls[m].l).length : Nat) : Int) := by omega
                simp (disch := omega) only [go_sem, Nat.reduceEqDiff, Nat.reduceAdd, Nat.reduceMul, Nat.reduceSub, Nat.reduceLeDiff, ↓reduceIte, reduceCtorEq, Int.reduceAdd, Int.reduceSub, Int.reduceMul, Int.reduceNeg, Int.reduceToNat, List.reduceReplicate, String.reduceEq, e0, e5, e6, e7, e8, hrl, List.length_append, hbig']
                refine DFin.refl ⟨?_, rfl⟩
                rw [linesD_any hf (List.any_eq_true.2 ⟨ls[m], List.getElem_mem hlt, by rw [hlo]; exact decide_eq_true (by omega)⟩)]
              · have hbig' : ¬ (256 : Int) < ((2 * j + (joinT ls[m].l).length : Nat) : Int) := by omega
                simp (disch := omega) only [go_sem, Nat.reduceEqDiff, Nat.reduceAdd, Nat.reduceMul, Nat.reduceSub, Nat.reduceLeDiff, ↓reduceIte, reduceCtorEq, Int.reduceAdd, Int.reduceSub, Int.reduceMul, Int.reduceNeg, Int.reduceToNat, List.reduceReplicate, String.reduceEq, e0, e5, e6, e7, e8, hrl, List.length_append, hbig']
                refine ⟨m + 1, _, GhostS.refl _, (hJ _ _ _).2 ?_, by omega⟩
                simp (disch := omega) only [go_sem, Nat.reduceEqDiff, Nat.reduceAdd, Nat.reduceMul, Nat.reduceSub, Nat.reduceLeDiff, ↓reduceIte, reduceCtorEq, Int.reduceAdd, Int.reduceSub, Int.reduceMul, Int.reduceNeg, Int.reduceToNat, List.reduceReplicate, String.reduceEq, e0, e5, e6, hwm]
                (repeat' apply And.intro) <;> (try first | rfl | assumption | omega)
                · rw [htk, hlt2]; simp [List.append_assoc]
                · rw [hlk, hany, hlo]; exact decide_eq_false (by omega)
        · have : m = ls.length := by omega
          subst this
          rw [List.take_length] at hany e5
          have htl := linesT_len ls hf hL
          by_cases hbig : 65536 < (linesT ls).length
          · have hbig' : (65536 : Int) < ((linesT ls).length : Int) := by omega
            simp (disch := omega) only [go_sem, Nat.reduceEqDiff, Nat.reduceAdd, Nat.reduceMul, Nat.reduceSub, Nat.reduceLeDiff, ↓reduceIte, reduceCtorEq, Int.reduceAdd, Int.reduceSub, Int.reduceMul, Int.reduceNeg, Int.reduceToNat, List.reduceReplicate, String.reduceEq, e0, e5, e6, hbig']
            exact DFin.refl ⟨by rw [linesD_big hf hbig], rfl⟩
          · have hbig' : ¬ (65536 : Int) < ((linesT ls).length : Int) := by omega
            simp (disch := omega) only [go_sem, Nat.reduceEqDiff, Nat.reduceAdd, Nat.reduceMul, Nat.reduceSub, Nat.reduceLeDiff, ↓reduceIte, reduceCtorEq, Int.reduceAdd, Int.reduceSub, Int.reduceMul, Int.reduceNeg, Int.reduceToNat, List.reduceReplicate, String.reduceEq, e0, e5, e6, hbig']
            exact DFin.refl ⟨by rw [linesD_ok hf hany hbig], rfl⟩
theorem lexTexts_spec (hG : GX G) (H : DHeap) (l : List Tok) (ls : List Lin) (hT : ∀ t ∈ l, t.text.length ≤ 9223372036854775807) (hL : ∀ x ∈ ls, ∀ t ∈ x.l, t.text.length ≤ 9223372036854775807) : DCalls Tryz.prog G 5 [dToks l, dLins ls] H (DRet (.bool true) H) := by
  refine dcalls_intro Tryz.func5 Tryz.call5 rfl (by kernel_rfl) ?_
  by_cases h1 : 400 < l.length
  · have h1' : (400 : Int) < (l.length : Int) := by omega
    simp (disch := omega) only [go_sem, Nat.reduceEqDiff, Nat.reduceAdd, Nat.reduceMul, Nat.reduceSub, Nat.reduceLeDiff, ↓reduceIte, reduceCtorEq, Int.reduceAdd, Int.reduceSub, Int.reduceMul, Int.reduceNeg, Int.reduceToNat, List.reduceReplicate, String.reduceEq, dToks, dLins, h1']
    refine (awake_spec hG _).mono ?_
    rintro _ H1 ⟨rfl, rfl⟩
    simp (disch := omega) only [go_sem, Nat.reduceEqDiff, Nat.reduceAdd, Nat.reduceMul, Nat.reduceSub, Nat.reduceLeDiff, ↓reduceIte, reduceCtorEq, Int.reduceAdd, Int.reduceSub, Int.reduceMul, Int.reduceNeg, Int.reduceToNat, List.reduceReplicate, String.reduceEq]
    exact DFin.refl ⟨rfl, rfl⟩
  have h1' : ¬ (400 : Int) < (l.length : Int) := by omega
  by_cases h2 : 60 < ls.length
  · have h2' : (60 : Int) < (ls.length : Int) := by omega
    simp (disch := omega) only [go_sem, Nat.reduceEqDiff, Nat.reduceAdd, Nat.reduceMul, Nat.reduceSub, Nat.reduceLeDiff, ↓reduceIte, reduceCtorEq, Int.reduceAdd, Int.reduceSub, Int.reduceMul, Int.reduceNeg, Int.reduceToNat, List.reduceReplicate, String.reduceEq, dToks, dLins, h1', h2']
    refine (awake_spec hG _).mono ?_
    rintro _ H1 ⟨rfl, rfl⟩
    simp (disch := omega) only [go_sem, Nat.reduceEqDiff, Nat.reduceAdd, Nat.reduceMul, Nat.reduceSub, Nat.reduceLeDiff, ↓reduceIte, reduceCtorEq, Int.reduceAdd, Int.reduceSub, Int.reduceMul, Int.reduceNeg, Int.reduceToNat, List.reduceReplicate, String.reduceEq]
    exact DFin.refl ⟨rfl, rfl⟩
  have h2' : ¬ (60 : Int) < (ls.length : Int) := by omega
  simp (disch := omega) only [go_sem, Nat.reduceEqDiff, Nat.reduceAdd, Nat.reduceMul, Nat.reduceSub, Nat.reduceLeDiff, ↓reduceIte, reduceCtorEq, Int.reduceAdd, Int.reduceSub, Int.reduceMul, Int.reduceNeg, Int.reduceToNat, List.reduceReplicate, String.reduceEq, dToks, dLins, h1', h2']
  obtain ⟨I, hI⟩ : ∃ I : Nat → (Nat → DVal) → DHeap → Prop, ∀ k env heap, I k env heap ↔ (env 0 = .vslice (l.flatMap dTok) l.length ∧ env 1 = .vslice (ls.flatMap dLin) ls.length ∧ env 24 = .vslice (ls.flatMap dLin) ls.length ∧ env 25 = dI ls.length ∧ env 26 = dI k ∧ k ≤ ls.length ∧ (∀ x ∈ ls.take k, x.l.length ≤ 400) ∧ Sub H heap) := ⟨_, fun _ _ _ => Iff.rfl⟩
  refine DLoop.run I (fun k => ls.length - k) 0 ((hI _ _ _).2 ?_) ?_
  · simp (disch := omega) only [go_sem, Nat.reduceEqDiff, Nat.reduceAdd, Nat.reduceMul, Nat.reduceSub, Nat.reduceLeDiff, ↓reduceIte, reduceCtorEq, Int.reduceAdd, Int.reduceSub, Int.reduceMul, Int.reduceNeg, Int.reduceToNat, List.reduceReplicate, String.reduceEq]
    (repeat' apply And.intro) <;> (try first | rfl | assumption | omega)
    · intro x hx; simp at hx
    · exact Sub.refl _
  · intro k env heap hi
    obtain ⟨e0, e1, e24, e25, e26, hk, hno, hsub⟩ := (hI _ _ _).1 hi
    by_cases hlt : k < ls.length
    · have hlt' : (k : Int) < (ls.length : Int) := by omega
      have hget := flat_el dLin_len ls k hlt
      have hfl := flat_len dLin_len ls
      have hwd : IntKind.i64.wrap ((k : Int) + 1) = ((k + 1 : Nat) : Int) := by rw [IntKind.wrap_i64]; omega
      simp (disch := omega) only [go_sem, Nat.reduceEqDiff, Nat.reduceAdd, Nat.reduceMul, Nat.reduceSub, Nat.reduceLeDiff, ↓reduceIte, reduceCtorEq, Int.reduceAdd, Int.reduceSub, Int.reduceMul, Int.reduceNeg, Int.reduceToNat, List.reduceReplicate, String.reduceEq, e0, e1, e24, e25, e26, hlt', hget, hfl, Int.toNat_natCast]
      intro r6 hr6; dsimp only at hr6
      have hs6 := hsub.new hr6 (some (DObj.cells (dLin ls[k]) 32))
      by_cases hb : 400 < ls[k].l.length
      · have hb' : (400 : Int) < (ls[k].l.length : Int) := by omega
        simp (disch := omega) only [go_sem, Nat.reduceEqDiff, Nat.reduceAdd, Nat.reduceMul, Nat.reduceSub, Nat.reduceLeDiff, ↓reduceIte, reduceCtorEq, Int.reduceAdd, Int.reduceSub, Int.reduceMul, Int.reduceNeg, Int.reduceToNat, List.reduceReplicate, String.reduceEq, e0, e1, e24, e25, e26, dLin_len, dLin_t2, dLin_one, dLin_0, dLin_1, dToks, hb', List.append_nil]
        refine (awake_spec hG _).mono ?_
        rintro _ H1 ⟨rfl, rfl⟩
        simp (disch := omega) only [go_sem, Nat.reduceEqDiff, Nat.reduceAdd, Nat.reduceMul, Nat.reduceSub, Nat.reduceLeDiff, ↓reduceIte, reduceCtorEq, Int.reduceAdd, Int.reduceSub, Int.reduceMul, Int.reduceNeg, Int.reduceToNat, List.reduceReplicate, String.reduceEq]
        exact DFin.sub hs6 (DFin.refl ⟨rfl, rfl⟩)
      · have hb' : ¬ (400 : Int) < (ls[k].l.length : Int) := by omega
        simp (disch := omega) only [go_sem, Nat.reduceEqDiff, Nat.reduceAdd, Nat.reduceMul, Nat.reduceSub, Nat.reduceLeDiff, ↓reduceIte, reduceCtorEq, Int.reduceAdd, Int.reduceSub, Int.reduceMul, Int.reduceNeg, Int.reduceToNat, List.reduceReplicate, String.reduceEq, e0, e1, e24, e25, e26, dLin_len, dLin_t2, dLin_one, dLin_0, dLin_1, dToks, hb', List.append_nil]
        refine ⟨k + 1, _, GhostS.refl _, (hI _ _ _).2 ?_, by omega⟩
        simp (disch := omega) only [go_sem, Nat.reduceEqDiff, Nat.reduceAdd, Nat.reduceMul, Nat.reduceSub, Nat.reduceLeDiff, ↓reduceIte, reduceCtorEq, Int.reduceAdd, Int.reduceSub, Int.reduceMul, Int.reduceNeg, Int.reduceToNat, List.reduceReplicate, String.reduceEq, e0, e1, e24, e25, e26, hwd]
        (repeat' apply And.intro) <;> (try first | rfl | assumption | omega)
        exact take_next (p := fun x => x.l.length ≤ 400) hlt hno (by omega)
    · have : k = ls.length := by omega
      subst this
      rw [List.take_length] at hno
      simp (disch := omega) only [go_sem, Nat.reduceEqDiff, Nat.reduceAdd, Nat.reduceMul, Nat.reduceSub, Nat.reduceLeDiff, ↓reduceIte, reduceCtorEq, Int.reduceAdd, Int.reduceSub, Int.reduceMul, Int.reduceNeg, Int.reduceToNat, List.reduceReplicate, String.reduceEq, e0, e1, e24, e25, e26]
      refine (lexText_spec hG _ l (by omega) hT).mono ?_
      rintro _ H1 ⟨rfl, rfl⟩
      simp (disch := omega) only [go_sem, Nat.reduceEqDiff, Nat.reduceAdd, Nat.reduceMul, Nat.reduceSub, Nat.reduceLeDiff, ↓reduceIte, reduceCtorEq, Int.reduceAdd, Int.reduceSub, Int.reduceMul, Int.reduceNeg, Int.reduceToNat, List.reduceReplicate, String.reduceEq, e0, e1, e24, e25, e26]
      refine (rText_spec G _ l (by omega)).mono ?_
      rintro _ H1 ⟨rfl, rfl⟩
      simp (disch := omega) only [go_sem, Nat.reduceEqDiff, Nat.reduceAdd, Nat.reduceMul, Nat.reduceSub, Nat.reduceLeDiff, ↓reduceIte, reduceCtorEq, Int.reduceAdd, Int.reduceSub, Int.reduceMul, Int.reduceNeg, Int.reduceToNat, List.reduceReplicate, String.reduceEq, e0, e1, e24, e25, e26]
      refine (lexLines_spec hG _ ls (by omega) fun x hx => ⟨by have := hno x hx; omega, hL x hx⟩).mono ?_
      rintro _ H1 ⟨rfl, rfl⟩
      simp (disch := omega) only [go_sem, Nat.reduceEqDiff, Nat.reduceAdd, Nat.reduceMul, Nat.reduceSub, Nat.reduceLeDiff, ↓reduceIte, reduceCtorEq, Int.reduceAdd, Int.reduceSub, Int.reduceMul, Int.reduceNeg, Int.reduceToNat, List.reduceReplicate, String.reduceEq, e0, e1, e24, e25, e26]
      refine (rLines_spec G _ ls (by omega) fun x hx => by have := hno x hx; omega).mono ?_
      rintro _ H1 ⟨rfl, rfl⟩
      simp (disch := omega) only [go_sem, Nat.reduceEqDiff, Nat.reduceAdd, Nat.reduceMul, Nat.reduceSub, Nat.reduceLeDiff, ↓reduceIte, reduceCtorEq, Int.reduceAdd, Int.reduceSub, Int.reduceMul, Int.reduceNeg, Int.reduceToNat, List.reduceReplicate, String.reduceEq, e0, e1, e24, e25, e26]
      refine (awake_spec hG _).mono ?_
      rintro _ H1 ⟨rfl, rfl⟩
      simp (disch := omega) only [go_sem, Nat.reduceEqDiff, Nat.reduceAdd, Nat.reduceMul, Nat.reduceSub, Nat.reduceLeDiff, ↓reduceIte, reduceCtorEq, Int.reduceAdd, Int.reduceSub, Int.reduceMul, Int.reduceNeg, Int.reduceToNat, List.reduceReplicate, String.reduceEq]
      exact DFin.sub hsub (DFin.refl ⟨rfl, rfl⟩)
end
end Go.Dl

-- Chapter 2: known; LexBack.
namespace Go.Dl
open Go Go.Proofs
set_option maxRecDepth 100000

theorem filter_take {p : Tok → Bool} {l : List Tok} {k : Nat} (h : k < l.length) : (l.take (k + 1)).filter p = (l.take k).filter p ++ (if p l[k] then [l[k]] else []) := by
  rw [List.take_add_one, List.getElem?_eq_getElem h, List.filter_append]
  congr 1
  rw [Option.toList_some, List.filter_cons]
  split <;> rfl
theorem fine_filter (l : List Tok) : fineT (l.filter mayT) = true := List.all_eq_true.2 fun t ht => (List.mem_filter.1 ht).2
theorem same_line (l : List Tok) (n : Int) : sameL l (l.map fun t => { t with line := n }) = true := by
  induction l with
  | nil => rfl
  | cons t l ih => rw [List.map_cons, sameL, ih, sameT_eq]; simp
section
variable {G : Nat → DVal} {H : DHeap}
theorem known_spec (G : Nat → DVal) (H : DHeap) (l : List Tok) (hl : l.length ≤ 1000000000) : DCalls Tryz.prog G 28 [dToks l] H (DRet (dToks (l.filter mayT)) H) := by
  refine dcalls_intro Tryz.func28 Tryz.call28 rfl (by kernel_rfl) ?_
  simp (disch := omega) only [go_sem, Nat.reduceEqDiff, Nat.reduceAdd, Nat.reduceMul, Nat.reduceSub, Nat.reduceLeDiff, ↓reduceIte, reduceCtorEq, Int.reduceAdd, Int.reduceSub, Int.reduceMul, Int.reduceNeg, Int.reduceToNat, List.reduceReplicate, String.reduceEq, dToks]
  obtain ⟨I, hI⟩ : ∃ I : Nat → (Nat → DVal) → DHeap → Prop, ∀ k env heap, I k env heap ↔ (env 6 = .vslice (l.flatMap dTok) l.length ∧ env 7 = dI l.length ∧ env 8 = dI k ∧ k ≤ l.length ∧ OwnJ H 27 4 ((l.take k).filter mayT).length (((l.take k).filter mayT).flatMap dTok) (env 3) heap) := ⟨_, fun _ _ _ => Iff.rfl⟩
  refine DLoop.run I (fun k => l.length - k) 0 ((hI _ _ _).2 ?_) ?_
  · simp (disch := omega) only [go_sem, Nat.reduceEqDiff, Nat.reduceAdd, Nat.reduceMul, Nat.reduceSub, Nat.reduceLeDiff, ↓reduceIte, reduceCtorEq, Int.reduceAdd, Int.reduceSub, Int.reduceMul, Int.reduceNeg, Int.reduceToNat, List.reduceReplicate, String.reduceEq]
    (repeat' apply And.intro) <;> (try first | rfl | assumption | omega)
    exact OwnJ.nil _ _ (Sub.refl _)
  · intro k env heap hi
    obtain ⟨e6, e7, e8, hk, hv⟩ := (hI _ _ _).1 hi
    obtain ⟨v, e3⟩ : ∃ v, env 3 = v := ⟨_, rfl⟩
    rw [e3] at hv
    by_cases hlt : k < l.length
    · have hlt' : (k : Int) < (l.length : Int) := by omega
      have hget := flat_el dTok_len l k hlt
      have hfl := flat_len dTok_len l
      have hwd : IntKind.i64.wrap ((k : Int) + 1) = ((k + 1 : Nat) : Int) := by rw [IntKind.wrap_i64]; omega
      have hft := filter_take (p := mayT) hlt
      have hfk : ((l.take k).filter mayT).length ≤ k := by
        have := List.length_filter_le mayT (l.take k)
        rw [List.length_take] at this; omega
      simp (disch := omega) only [go_sem, Nat.reduceEqDiff, Nat.reduceAdd, Nat.reduceMul, Nat.reduceSub, Nat.reduceLeDiff, ↓reduceIte, reduceCtorEq, Int.reduceAdd, Int.reduceSub, Int.reduceMul, Int.reduceNeg, Int.reduceToNat, List.reduceReplicate, String.reduceEq, e3, e6, e7, e8, hlt', hget, hfl, Int.toNat_natCast]
      intro r5 hr5; dsimp only at hr5
      have hvf := hv.frame hr5 (.cells (dTok l[k]) 27)
      have hH5 : H r5 = none := hv.sub.lo hr5
      simp (disch := omega) only [go_sem, Nat.reduceEqDiff, Nat.reduceAdd, Nat.reduceMul, Nat.reduceSub, Nat.reduceLeDiff, ↓reduceIte, reduceCtorEq, Int.reduceAdd, Int.reduceSub, Int.reduceMul, Int.reduceNeg, Int.reduceToNat, List.reduceReplicate, String.reduceEq, e3, e6, e7, e8, dTok_len, dTok_t4, dTok_d4, dTok_one, List.append_nil]
      refine (rmay_spec G _ l[k]).mono ?_
      rintro _ H1 ⟨rfl, rfl⟩
      cases hm : mayT l[k] with
      | false =>
        rw [hm, if_neg (by simp), List.append_nil] at hft
        simp (disch := omega) only [go_sem, Nat.reduceEqDiff, Nat.reduceAdd, Nat.reduceMul, Nat.reduceSub, Nat.reduceLeDiff, ↓reduceIte, reduceCtorEq, Int.reduceAdd, Int.reduceSub, Int.reduceMul, Int.reduceNeg, Int.reduceToNat, List.reduceReplicate, String.reduceEq, e3, e6, e7, e8]
        refine ⟨k + 1, _, GhostS.refl _, (hI _ _ _).2 ?_, by omega⟩
        simp (disch := omega) only [go_sem, Nat.reduceEqDiff, Nat.reduceAdd, Nat.reduceMul, Nat.reduceSub, Nat.reduceLeDiff, ↓reduceIte, reduceCtorEq, Int.reduceAdd, Int.reduceSub, Int.reduceMul, Int.reduceNeg, Int.reduceToNat, List.reduceReplicate, String.reduceEq, e3, e6, e7, e8, hwd]
        (repeat' apply And.intro) <;> (try first | rfl | assumption | omega)
        rw [hft]
        exact hv.new hr5 _
      | true =>
        rw [hm, if_pos rfl] at hft
        have hrep : repl 1 [DVal.int IntKind.u8 0, DVal.int IntKind.i64 0, DVal.str [], DVal.int IntKind.i64 0] = [DVal.int IntKind.u8 0, DVal.int IntKind.i64 0, DVal.str [], DVal.int IntKind.i64 0] := rfl
        simp (disch := omega) only [go_sem, Nat.reduceEqDiff, Nat.reduceAdd, Nat.reduceMul, Nat.reduceSub, Nat.reduceLeDiff, ↓reduceIte, reduceCtorEq, Int.reduceAdd, Int.reduceSub, Int.reduceMul, Int.reduceNeg, Int.reduceToNat, List.reduceReplicate, String.reduceEq, e3, e6, e7, e8, dTok_len, dTok_t4, dTok_d4, dTok_one, List.append_nil]
        rw [hrep]
        simp (disch := omega) only [go_sem, Nat.reduceEqDiff, Nat.reduceAdd, Nat.reduceMul, Nat.reduceSub, Nat.reduceLeDiff, ↓reduceIte, reduceCtorEq, Int.reduceAdd, Int.reduceSub, Int.reduceMul, Int.reduceNeg, Int.reduceToNat, List.reduceReplicate, String.reduceEq, List.length_cons, List.length_nil, List.drop_succ_cons, List.drop_zero, List.append_nil, e3]
        intro ns hns; dsimp only at hns
        simp (disch := omega) only [go_sem, Nat.reduceEqDiff, Nat.reduceAdd, Nat.reduceMul, Nat.reduceSub, Nat.reduceLeDiff, ↓reduceIte, reduceCtorEq, Int.reduceAdd, Int.reduceSub, Int.reduceMul, Int.reduceNeg, Int.reduceToNat, List.reduceReplicate, String.reduceEq, e3, e6, e7, e8, dTok_len, dTok_t4, dTok_d4, dTok_one, List.append_nil]
        refine OwnJ.append (m := 1) (hvf.new hns _) rfl (by omega) fun v2 H3 hv3 => ?_
        simp (disch := omega) only [go_sem, Nat.reduceEqDiff, Nat.reduceAdd, Nat.reduceMul, Nat.reduceSub, Nat.reduceLeDiff, ↓reduceIte, reduceCtorEq, Int.reduceAdd, Int.reduceSub, Int.reduceMul, Int.reduceNeg, Int.reduceToNat, List.reduceReplicate, String.reduceEq, e3, e6, e7, e8]
        refine ⟨k + 1, _, GhostS.refl _, (hI _ _ _).2 ?_, by omega⟩
        simp (disch := omega) only [go_sem, Nat.reduceEqDiff, Nat.reduceAdd, Nat.reduceMul, Nat.reduceSub, Nat.reduceLeDiff, ↓reduceIte, reduceCtorEq, Int.reduceAdd, Int.reduceSub, Int.reduceMul, Int.reduceNeg, Int.reduceToNat, List.reduceReplicate, String.reduceEq, e3, e6, e7, e8, hwd]
        (repeat' apply And.intro) <;> (try first | rfl | assumption | omega)
        have := hv3.less ((Sub.refl H).up hH5 _)
        rw [hft, List.length_append, List.flatMap_append]
        simpa using this
    · have : k = l.length := by omega
      subst this
      rw [List.take_length] at hv
      simp (disch := omega) only [go_sem, Nat.reduceEqDiff, Nat.reduceAdd, Nat.reduceMul, Nat.reduceSub, Nat.reduceLeDiff, ↓reduceIte, reduceCtorEq, Int.reduceAdd, Int.reduceSub, Int.reduceMul, Int.reduceNeg, Int.reduceToNat, List.reduceReplicate, String.reduceEq, e3, e6, e7, e8]
      exact hv.fin ⟨rfl, rfl⟩
theorem lexBack_spec (hG : GX G) (H : DHeap) (l : List Tok) : DCalls Tryz.prog G 6 [dToks l] H (DRet (.bool true) H) := by
  refine dcalls_intro Tryz.func6 Tryz.call6 rfl (by kernel_rfl) ?_
  by_cases h1 : 400 < l.length
  · have h1' : (400 : Int) < (l.length : Int) := by omega
    simp (disch := omega) only [go_sem, Nat.reduceEqDiff, Nat.reduceAdd, Nat.reduceMul, Nat.reduceSub, Nat.reduceLeDiff, ↓reduceIte, reduceCtorEq, Int.reduceAdd, Int.reduceSub, Int.reduceMul, Int.reduceNeg, Int.reduceToNat, List.reduceReplicate, String.reduceEq, dToks, h1']
    refine (awake_spec hG _).mono ?_
    rintro _ H1 ⟨rfl, rfl⟩
    simp (disch := omega) only [go_sem, Nat.reduceEqDiff, Nat.reduceAdd, Nat.reduceMul, Nat.reduceSub, Nat.reduceLeDiff, ↓reduceIte, reduceCtorEq, Int.reduceAdd, Int.reduceSub, Int.reduceMul, Int.reduceNeg, Int.reduceToNat, List.reduceReplicate, String.reduceEq]
    exact DFin.refl ⟨rfl, rfl⟩
  have h1' : ¬ (400 : Int) < (l.length : Int) := by omega
  simp (disch := omega) only [go_sem, Nat.reduceEqDiff, Nat.reduceAdd, Nat.reduceMul, Nat.reduceSub, Nat.reduceLeDiff, ↓reduceIte, reduceCtorEq, Int.reduceAdd, Int.reduceSub, Int.reduceMul, Int.reduceNeg, Int.reduceToNat, List.reduceReplicate, String.reduceEq, dToks, h1']
  refine (known_spec G _ l (by omega)).mono ?_
  rintro _ H1 ⟨rfl, rfl⟩
  have hf := fine_filter l
  have hfl : (l.filter mayT).length ≤ 400 := by
    have := List.length_filter_le mayT l
    omega
  generalize l.filter mayT = m at hf hfl
  simp (disch := omega) only [go_sem, Nat.reduceEqDiff, Nat.reduceAdd, Nat.reduceMul, Nat.reduceSub, Nat.reduceLeDiff, ↓reduceIte, reduceCtorEq, Int.reduceAdd, Int.reduceSub, Int.reduceMul, Int.reduceNeg, Int.reduceToNat, List.reduceReplicate, String.reduceEq]
  refine (lexText_spec hG _ m (by omega) fun t ht => by have := text_le (List.all_eq_true.1 hf t ht); omega).mono ?_
  rintro _ H1 ⟨rfl, rfl⟩
  by_cases hb : 256 < (joinT m).length
  · have h7 := join_long hf hb
    have h7' : (7 : Int) < (m.length : Int) := by omega
    rw [show textD m = ([], 3) by rw [textD, hf, if_pos rfl, if_pos hb]]
    simp (disch := omega) only [go_sem, Nat.reduceEqDiff, Nat.reduceAdd, Nat.reduceMul, Nat.reduceSub, Nat.reduceLeDiff, ↓reduceIte, reduceCtorEq, Int.reduceAdd, Int.reduceSub, Int.reduceMul, Int.reduceNeg, Int.reduceToNat, List.reduceReplicate, String.reduceEq, dToks, h7']
    refine (awake_spec hG _).mono ?_
    rintro _ H1 ⟨rfl, rfl⟩
    simp (disch := omega) only [go_sem, Nat.reduceEqDiff, Nat.reduceAdd, Nat.reduceMul, Nat.reduceSub, Nat.reduceLeDiff, ↓reduceIte, reduceCtorEq, Int.reduceAdd, Int.reduceSub, Int.reduceMul, Int.reduceNeg, Int.reduceToNat, List.reduceReplicate, String.reduceEq]
    exact DFin.refl ⟨rfl, rfl⟩
  rw [show textD m = (joinT m, 0) by rw [textD, hf, if_pos rfl, if_neg hb]]
  simp (disch := omega) only [go_sem, Nat.reduceEqDiff, Nat.reduceAdd, Nat.reduceMul, Nat.reduceSub, Nat.reduceLeDiff, ↓reduceIte, reduceCtorEq, Int.reduceAdd, Int.reduceSub, Int.reduceMul, Int.reduceNeg, Int.reduceToNat, List.reduceReplicate, String.reduceEq]
  refine (lexTokens_spec hG _ (joinT m) (by omega)).mono ?_
  rintro _ H1 ⟨rfl, rfl⟩
  rw [tokens_back hf (by omega)]
  have hsm := same_line m 1
  have hlen : (m.map fun t => { t with line := 1 }).length = m.length := List.length_map _
  have hall : ∀ t ∈ (m.map fun t : Tok => { t with line := 1 }), t.line = 1 := fun t ht => by
    obtain ⟨x, _, rfl⟩ := List.mem_map.1 ht; rfl
  generalize (m.map fun t : Tok => { t with line := 1 }) = q at hsm hlen hall
  simp (disch := omega) only [go_sem, Nat.reduceEqDiff, Nat.reduceAdd, Nat.reduceMul, Nat.reduceSub, Nat.reduceLeDiff, ↓reduceIte, reduceCtorEq, Int.reduceAdd, Int.reduceSub, Int.reduceMul, Int.reduceNeg, Int.reduceToNat, List.reduceReplicate, String.reduceEq, dToks]
  obtain ⟨I, hI⟩ : ∃ I : Nat → (Nat → DVal) → DHeap → Prop, ∀ k env heap, I k env heap ↔ (env 0 = .vslice (m.flatMap dTok) m.length ∧ env 5 = .vslice (q.flatMap dTok) q.length ∧ env 6 = dI 0 ∧ env 7 = dI 0 ∧ env 43 = .vslice (q.flatMap dTok) q.length ∧ env 44 = dI q.length ∧ env 45 = dI k ∧ k ≤ q.length ∧ Sub H1 heap) := ⟨_, fun _ _ _ => Iff.rfl⟩
  refine DLoop.run I (fun k => q.length - k) 0 ((hI _ _ _).2 ?_) ?_
  · simp (disch := omega) only [go_sem, Nat.reduceEqDiff, Nat.reduceAdd, Nat.reduceMul, Nat.reduceSub, Nat.reduceLeDiff, ↓reduceIte, reduceCtorEq, Int.reduceAdd, Int.reduceSub, Int.reduceMul, Int.reduceNeg, Int.reduceToNat, List.reduceReplicate, String.reduceEq]
    (repeat' apply And.intro) <;> (try first | rfl | assumption | omega)
    exact Sub.refl _
  · intro k env heap hi
    obtain ⟨e0, e5, e6, e7, e43, e44, e45, hk, hsub⟩ := (hI _ _ _).1 hi
    by_cases hlt : k < q.length
    · have hlt' : (k : Int) < (q.length : Int) := by omega
      have hget := flat_el dTok_len q k hlt
      have hfl := flat_len dTok_len q
      have hwd : IntKind.i64.wrap ((k : Int) + 1) = ((k + 1 : Nat) : Int) := by rw [IntKind.wrap_i64]; omega
      have hline := hall q[k] (List.getElem_mem hlt)
      simp (disch := omega) only [go_sem, Nat.reduceEqDiff, Nat.reduceAdd, Nat.reduceMul, Nat.reduceSub, Nat.reduceLeDiff, ↓reduceIte, reduceCtorEq, Int.reduceAdd, Int.reduceSub, Int.reduceMul, Int.reduceNeg, Int.reduceToNat, List.reduceReplicate, String.reduceEq, e0, e5, e6, e7, e43, e44, e45, hlt', hget, hfl, Int.toNat_natCast]
      intro r9 hr9; dsimp only at hr9
      have hs9 := hsub.new hr9 (some (DObj.cells (dTok q[k]) 27))
      simp (disch := omega) only [go_sem, Nat.reduceEqDiff, Nat.reduceAdd, Nat.reduceMul, Nat.reduceSub, Nat.reduceLeDiff, ↓reduceIte, reduceCtorEq, Int.reduceAdd, Int.reduceSub, Int.reduceMul, Int.reduceNeg, Int.reduceToNat, List.reduceReplicate, String.reduceEq, e0, e5, e6, e7, e43, e44, e45, dTok_len, dTok_t4, dTok_d4, dTok_one, dTok_1, hline, List.append_nil]
      refine ⟨k + 1, _, GhostS.refl _, (hI _ _ _).2 ?_, by omega⟩
      simp (disch := omega) only [go_sem, Nat.reduceEqDiff, Nat.reduceAdd, Nat.reduceMul, Nat.reduceSub, Nat.reduceLeDiff, ↓reduceIte, reduceCtorEq, Int.reduceAdd, Int.reduceSub, Int.reduceMul, Int.reduceNeg, Int.reduceToNat, List.reduceReplicate, String.reduceEq, e0, e5, e6, e7, e43, e44, e45, hwd]
      (repeat' apply And.intro) <;> (try first | rfl | assumption | omega)
    · have : k = q.length := by omega
      subst this
      have hlen' : (q.length : Int) = (m.length : Int) := by omega
      simp (disch := omega) only [go_sem, Nat.reduceEqDiff, Nat.reduceAdd, Nat.reduceMul, Nat.reduceSub, Nat.reduceLeDiff, ↓reduceIte, reduceCtorEq, Int.reduceAdd, Int.reduceSub, Int.reduceMul, Int.reduceNeg, Int.reduceToNat, List.reduceReplicate, String.reduceEq, e0, e5, e6, e7, e43, e44, e45, hlen']
      refine (same_spec G _ m q (by omega)).mono ?_
      rintro _ H1 ⟨rfl, rfl⟩
      rw [hsm]
      simp (disch := omega) only [go_sem, Nat.reduceEqDiff, Nat.reduceAdd, Nat.reduceMul, Nat.reduceSub, Nat.reduceLeDiff, ↓reduceIte, reduceCtorEq, Int.reduceAdd, Int.reduceSub, Int.reduceMul, Int.reduceNeg, Int.reduceToNat, List.reduceReplicate, String.reduceEq, e0, e5, e6, e7, e43, e44, e45]
      refine (awake_spec hG _).mono ?_
      rintro _ H1 ⟨rfl, rfl⟩
      simp (disch := omega) only [go_sem, Nat.reduceEqDiff, Nat.reduceAdd, Nat.reduceMul, Nat.reduceSub, Nat.reduceLeDiff, ↓reduceIte, reduceCtorEq, Int.reduceAdd, Int.reduceSub, Int.reduceMul, Int.reduceNeg, Int.reduceToNat, List.reduceReplicate, String.reduceEq]
      exact DFin.sub hsub (DFin.refl ⟨rfl, rfl⟩)
end
end Go.Dl

-- Chapter 2: LexJoins.
namespace Go.Dl
open Go Go.Proofs
set_option maxRecDepth 100000

theorem allY_line : ∀ (ls : List (List UInt8)) (i : Nat), ∀ y ∈ allY ls i, y.1.line = y.2.2 ∧ (i : Int) ≤ y.2.2 ∧ y.2.2 < ((i + ls.length : Nat) : Int)
  | [], _, y, hy => by cases hy
  | s :: ls, i, y, hy => by
    rw [allY, List.mem_append] at hy
    rcases hy with hy | hy
    · obtain ⟨p, _, rfl⟩ := List.mem_map.1 hy
      refine ⟨rfl, Int.le_refl _, ?_⟩
      simp only [List.length_cons]; omega
    · obtain ⟨h1, h2, h3⟩ := allY_line ls (i + 1) y hy
      refine ⟨h1, by omega, ?_⟩
      simp only [List.length_cons]; omega
theorem outY_mem : ∀ (Y : List (Tok × Bool × Int)) (n : Nat) (e : Int × Int), outY Y n = some e → ∃ y ∈ Y, e.1 = y.2.2
  | [], _, _, h => by cases h
  | p :: r, n, e, h => by
    rw [outY] at h
    split at h
    · cases h; exact ⟨p, by simp, rfl⟩
    · split at h
      · cases h; exact ⟨p, by simp, rfl⟩
      · obtain ⟨y, hy, he⟩ := outY_mem r _ e h
        exact ⟨y, by simp [hy], he⟩
theorem lines_len (src : List UInt8) : (linesL src).length ≤ src.length + 1 := by
  have := splitBy_count 10 src []
  have h2 : src.count 10 ≤ src.length := List.count_le_length
  rw [linesL, this]; omega
theorem tokens_bound (src : List UInt8) : (0 ≤ (tokensL src).2.1 ∧ (tokensL src).2.1 ≤ ((src.length + 1 : Nat) : Int)) ∧ ∀ t ∈ (tokensL src).1, 1 ≤ t.line ∧ t.line ≤ ((src.length + 1 : Nat) : Int) := by
  have hl := lines_len src
  rw [tokensL]
  split
  · exact ⟨⟨Int.le_refl _, by simp; omega⟩, fun t ht => by cases ht⟩
  · split
    · rename_i e he
      obtain ⟨y, hy, h⟩ := outY_mem _ _ _ he
      obtain ⟨_, h2, h3⟩ := allY_line _ _ y hy
      refine ⟨⟨?_, ?_⟩, fun t ht => by cases ht⟩
      · show 0 ≤ e.1; omega
      · show e.1 ≤ _; omega
    · refine ⟨⟨Int.le_refl _, by simp; omega⟩, fun t ht => ?_⟩
      obtain ⟨y, hy, rfl⟩ := List.mem_map.1 ht
      obtain ⟨h1, h2, h3⟩ := allY_line _ _ y hy
      rw [h1]; omega
theorem flat_snoc {l : List Tok} {t : Tok} : (l ++ [t]).flatMap dTok = l.flatMap dTok ++ dTok t := by simp
section
variable {G : Nat → DVal} {H : DHeap}
set_option maxHeartbeats 4000000 in
theorem lexJoins_spec (hG : GX G) (H : DHeap) (a b : List UInt8) : DCalls Tryz.prog G 11 [.str a, .str b] H (DRet (.bool true) H) := by
  refine dcalls_intro Tryz.func11 Tryz.call11 rfl (by kernel_rfl) ?_
  by_cases h1 : 1500 < a.length
  · have h1' : (1500 : Int) < (a.length : Int) := by omega
    simp (disch := omega) only [go_sem, Nat.reduceEqDiff, Nat.reduceAdd, Nat.reduceMul, Nat.reduceSub, Nat.reduceLeDiff, ↓reduceIte, reduceCtorEq, Int.reduceAdd, Int.reduceSub, Int.reduceMul, Int.reduceNeg, Int.reduceToNat, List.reduceReplicate, String.reduceEq, h1']
    refine (awake_spec hG _).mono ?_
    rintro _ H1 ⟨rfl, rfl⟩
    simp (disch := omega) only [go_sem, Nat.reduceEqDiff, Nat.reduceAdd, Nat.reduceMul, Nat.reduceSub, Nat.reduceLeDiff, ↓reduceIte, reduceCtorEq, Int.reduceAdd, Int.reduceSub, Int.reduceMul, Int.reduceNeg, Int.reduceToNat, List.reduceReplicate, String.reduceEq]
    exact DFin.refl ⟨rfl, rfl⟩
  have h1' : ¬ (1500 : Int) < (a.length : Int) := by omega
  by_cases h2 : 1500 < b.length
  · have h2' : (1500 : Int) < (b.length : Int) := by omega
    simp (disch := omega) only [go_sem, Nat.reduceEqDiff, Nat.reduceAdd, Nat.reduceMul, Nat.reduceSub, Nat.reduceLeDiff, ↓reduceIte, reduceCtorEq, Int.reduceAdd, Int.reduceSub, Int.reduceMul, Int.reduceNeg, Int.reduceToNat, List.reduceReplicate, String.reduceEq, h1', h2']
    refine (awake_spec hG _).mono ?_
    rintro _ H1 ⟨rfl, rfl⟩
    simp (disch := omega) only [go_sem, Nat.reduceEqDiff, Nat.reduceAdd, Nat.reduceMul, Nat.reduceSub, Nat.reduceLeDiff, ↓reduceIte, reduceCtorEq, Int.reduceAdd, Int.reduceSub, Int.reduceMul, Int.reduceNeg, Int.reduceToNat, List.reduceReplicate, String.reduceEq]
    exact DFin.refl ⟨rfl, rfl⟩
  have h2' : ¬ (1500 : Int) < (b.length : Int) := by omega
  simp (disch := omega) only [go_sem, Nat.reduceEqDiff, Nat.reduceAdd, Nat.reduceMul, Nat.reduceSub, Nat.reduceLeDiff, ↓reduceIte, reduceCtorEq, Int.reduceAdd, Int.reduceSub, Int.reduceMul, Int.reduceNeg, Int.reduceToNat, List.reduceReplicate, String.reduceEq, h1', h2']
  have hj := tokens_join (a := a) (b := b) (by omega) (by omega)
  have hlen : (tokensL a).1.length ≤ 1502 := by
    have := allY_small a 1
    rw [tokens_small (by omega)]
    split
    · simp
    · rw [List.length_map]; omega
  have hlq : (tokensL b).1.length ≤ 1502 := by
    have := allY_small b 1
    rw [tokens_small (by omega)]
    split
    · simp
    · rw [List.length_map]; omega
  obtain ⟨hqb, hql⟩ := tokens_bound b
  have hcl : a.count 10 ≤ a.length := List.count_le_length
  refine (lexTokensO_spec hG H a (by omega)).mono ?_
  rintro _ H1 ⟨v, p, hp, rfl, hv⟩
  rw [hp] at hj hlen
  simp (disch := omega) only [go_sem, Nat.reduceEqDiff, Nat.reduceAdd, Nat.reduceMul, Nat.reduceSub, Nat.reduceLeDiff, ↓reduceIte, reduceCtorEq, Int.reduceAdd, Int.reduceSub, Int.reduceMul, Int.reduceNeg, Int.reduceToNat, List.reduceReplicate, String.reduceEq]
  refine (lexTokens_spec hG H1 b (by omega)).mono ?_
  rintro _ H1 ⟨rfl, rfl⟩
  generalize tokensL b = q at hj hqb hql hlq
  obtain ⟨p1, p2, p3⟩ := p
  obtain ⟨q1, q2, q3⟩ := q
  dsimp only at hj hqb hql hlq hlen hv
  simp (disch := omega) only [go_sem, Nat.reduceEqDiff, Nat.reduceAdd, Nat.reduceMul, Nat.reduceSub, Nat.reduceLeDiff, ↓reduceIte, reduceCtorEq, Int.reduceAdd, Int.reduceSub, Int.reduceMul, Int.reduceNeg, Int.reduceToNat, List.reduceReplicate, String.reduceEq]
  refine ⟨by simp only [List.length_append, List.length_singleton]; omega, ?_⟩
  refine (lexTokens_spec hG H1 (a ++ [10] ++ b) (by simp only [List.length_append, List.length_singleton]; omega)).mono ?_
  rintro _ H1 ⟨rfl, rfl⟩
  rw [show a ++ [10] ++ b = a ++ 10 :: b by simp, hj]
  by_cases he : p3 = 0
  · rw [if_neg (fun h => h he)]
    simp (disch := omega) only [go_sem, Nat.reduceEqDiff, Nat.reduceAdd, Nat.reduceMul, Nat.reduceSub, Nat.reduceLeDiff, ↓reduceIte, reduceCtorEq, Int.reduceAdd, Int.reduceSub, Int.reduceMul, Int.reduceNeg, Int.reduceToNat, List.reduceReplicate, String.reduceEq, he]
    refine (count_spec (G := G) (H := H1) a 10).mono ?_
    rintro _ H1 ⟨rfl, rfl⟩
    have hw1 : IntKind.i64.wrap ((a.count 10 : Nat) + 1 : Int) = ((a.count 10 + 1 : Nat) : Int) := by rw [IntKind.wrap_i64]; omega
    have hcb : a.count 10 + 1 ≤ 1501 := by omega
    obtain ⟨c, hc⟩ : ∃ c, c = a.count 10 + 1 := ⟨_, rfl⟩
    rw [← hc] at hw1 hcb
    rw [← hc]
    by_cases hf : q3 = 0
    · rw [if_neg (fun h => h hf)]
      obtain ⟨m, hm⟩ : ∃ m, m = q1.map fun t : Tok => { t with line := t.line + (c : Int) } := ⟨_, rfl⟩
      have hml : m.length = q1.length := by rw [hm, List.length_map]
      have hsh : ∀ k (hk : k < q1.length), m[k]'(by omega) = { q1[k] with line := q1[k].line + (c : Int) } := fun k hk => by simp only [hm, List.getElem_map]
      rw [← hm]
      simp (disch := omega) only [go_sem, Nat.reduceEqDiff, Nat.reduceAdd, Nat.reduceMul, Nat.reduceSub, Nat.reduceLeDiff, ↓reduceIte, reduceCtorEq, Int.reduceAdd, Int.reduceSub, Int.reduceMul, Int.reduceNeg, Int.reduceToNat, List.reduceReplicate, String.reduceEq, hf, hw1, dToks]
      obtain ⟨I, hI⟩ : ∃ I : Nat → (Nat → DVal) → DHeap → Prop, ∀ k env heap, I k env heap ↔ (env 11 = .vslice ((p1 ++ m).flatMap dTok) (p1 ++ m).length ∧ env 12 = dI 0 ∧ env 13 = dI 0 ∧ env 14 = dI c ∧ env 88 = .vslice (q1.flatMap dTok) q1.length ∧ env 89 = dI q1.length ∧ env 90 = dI k ∧ k ≤ q1.length ∧ OwnJ H 27 4 (p1 ++ m.take k).length ((p1 ++ m.take k).flatMap dTok) (env 5) heap) := ⟨_, fun _ _ _ => Iff.rfl⟩
      refine DLoop.run I (fun k => q1.length - k) 0 ((hI _ _ _).2 ?_) ?_
      · simp (disch := omega) only [go_sem, Nat.reduceEqDiff, Nat.reduceAdd, Nat.reduceMul, Nat.reduceSub, Nat.reduceLeDiff, ↓reduceIte, reduceCtorEq, Int.reduceAdd, Int.reduceSub, Int.reduceMul, Int.reduceNeg, Int.reduceToNat, List.reduceReplicate, String.reduceEq]
        (repeat' apply And.intro) <;> (try first | rfl | assumption | omega)
        rw [List.append_nil]; exact hv
      · intro k env heap hi
        obtain ⟨e11, e12, e13, e14, e88, e89, e90, hk, hv⟩ := (hI _ _ _).1 hi
        obtain ⟨v, e5⟩ : ∃ v, env 5 = v := ⟨_, rfl⟩
        rw [e5] at hv
        by_cases hlt : k < q1.length
        · have hlt' : (k : Int) < (q1.length : Int) := by omega
          have hget := flat_el dTok_len q1 k hlt
          have hfl := flat_len dTok_len q1
          have hwd : IntKind.i64.wrap ((k : Int) + 1) = ((k + 1 : Nat) : Int) := by rw [IntKind.wrap_i64]; omega
          have hln := hql q1[k] (List.getElem_mem hlt)
          have hwl : IntKind.i64.wrap (q1[k].line + (c : Int)) = q1[k].line + (c : Int) := by rw [IntKind.wrap_i64]; omega
          have hmk := hsh k hlt
          have hsp : splice (dTok q1[k]) 1 [dI (q1[k].line + (c : Int))] = dTok { q1[k] with line := q1[k].line + (c : Int) } := rfl
          simp (disch := omega) only [go_sem, Nat.reduceEqDiff, Nat.reduceAdd, Nat.reduceMul, Nat.reduceSub, Nat.reduceLeDiff, ↓reduceIte, reduceCtorEq, Int.reduceAdd, Int.reduceSub, Int.reduceMul, Int.reduceNeg, Int.reduceToNat, List.reduceReplicate, String.reduceEq, e5, e11, e12, e13, e14, e88, e89, e90, hlt', hget, hfl, Int.toNat_natCast]
          intro r16 hr16; dsimp only at hr16
          have hvf := hv.frame hr16 (.cells (dTok { q1[k] with line := q1[k].line + (c : Int) }) 27)
          have hH16 : H r16 = none := hv.sub.lo hr16
          have hrep : repl 1 [DVal.int IntKind.u8 0, DVal.int IntKind.i64 0, DVal.str [], DVal.int IntKind.i64 0] = [DVal.int IntKind.u8 0, DVal.int IntKind.i64 0, DVal.str [], DVal.int IntKind.i64 0] := rfl
          simp (disch := omega) only [go_sem, Nat.reduceEqDiff, Nat.reduceAdd, Nat.reduceMul, Nat.reduceSub, Nat.reduceLeDiff, ↓reduceIte, reduceCtorEq, Int.reduceAdd, Int.reduceSub, Int.reduceMul, Int.reduceNeg, Int.reduceToNat, List.reduceReplicate, String.reduceEq, e5, e11, e12, e13, e14, e88, e89, e90, dTok_len, dTok_t4, dTok_d4, dTok_one, dTok_1, hwl, hsp, List.append_nil]
          rw [hrep]
          simp (disch := omega) only [go_sem, Nat.reduceEqDiff, Nat.reduceAdd, Nat.reduceMul, Nat.reduceSub, Nat.reduceLeDiff, ↓reduceIte, reduceCtorEq, Int.reduceAdd, Int.reduceSub, Int.reduceMul, Int.reduceNeg, Int.reduceToNat, List.reduceReplicate, String.reduceEq, List.length_cons, List.length_nil, List.drop_succ_cons, List.drop_zero, List.append_nil, e5]
          intro ns hns; dsimp only at hns
          simp (disch := omega) only [go_sem, Nat.reduceEqDiff, Nat.reduceAdd, Nat.reduceMul, Nat.reduceSub, Nat.reduceLeDiff, ↓reduceIte, reduceCtorEq, Int.reduceAdd, Int.reduceSub, Int.reduceMul, Int.reduceNeg, Int.reduceToNat, List.reduceReplicate, String.reduceEq, e5, e11, e12, e13, e14, e88, e89, e90, dTok_len, dTok_t4, dTok_d4, dTok_one, List.append_nil]
          have hpl : (p1 ++ m.take k).length ≤ 4000 := by rw [List.length_append, List.length_take]; omega
          refine OwnJ.append (m := 1) (hvf.new hns _) rfl (by omega) fun v2 H3 hv3 => ?_
          simp (disch := omega) only [go_sem, Nat.reduceEqDiff, Nat.reduceAdd, Nat.reduceMul, Nat.reduceSub, Nat.reduceLeDiff, ↓reduceIte, reduceCtorEq, Int.reduceAdd, Int.reduceSub, Int.reduceMul, Int.reduceNeg, Int.reduceToNat, List.reduceReplicate, String.reduceEq, e5, e11, e12, e13, e14, e88, e89, e90]
          refine ⟨k + 1, _, GhostS.refl _, (hI _ _ _).2 ?_, by omega⟩
          simp (disch := omega) only [go_sem, Nat.reduceEqDiff, Nat.reduceAdd, Nat.reduceMul, Nat.reduceSub, Nat.reduceLeDiff, ↓reduceIte, reduceCtorEq, Int.reduceAdd, Int.reduceSub, Int.reduceMul, Int.reduceNeg, Int.reduceToNat, List.reduceReplicate, String.reduceEq, e5, e11, e12, e13, e14, e88, e89, e90, hwd]
          (repeat' apply And.intro) <;> (try first | rfl | assumption | omega)
          have h4 := hv3.less ((Sub.refl H).up hH16 _)
          have htk : m.take (k + 1) = m.take k ++ [{ q1[k] with line := q1[k].line + (c : Int) }] := by
            rw [List.take_add_one, List.getElem?_eq_getElem (by omega), hmk]; rfl
          rw [htk, ← List.append_assoc, flat_snoc, List.length_append, List.length_singleton]
          exact h4
        · have : k = q1.length := by omega
          subst this
          have hmt : m.take q1.length = m := by rw [← hml, List.take_length]
          rw [hmt] at hv
          simp (disch := omega) only [go_sem, Nat.reduceEqDiff, Nat.reduceAdd, Nat.reduceMul, Nat.reduceSub, Nat.reduceLeDiff, ↓reduceIte, reduceCtorEq, Int.reduceAdd, Int.reduceSub, Int.reduceMul, Int.reduceNeg, Int.reduceToNat, List.reduceReplicate, String.reduceEq, e5, e11, e12, e13, e14, e88, e89, e90]
          have hpl : (p1 ++ m).length ≤ 4000 := by rw [List.length_append]; omega
          refine ((eqL_spec G h0 (p1 ++ m) (p1 ++ m) (by omega)).lent (args := [v, dToks (p1 ++ m)]) (OwnJ.lend hv [dToks (p1 ++ m)]) rfl).mono ?_
          rintro _ H1 ⟨rfl, rfl⟩
          rw [decide_eq_true rfl]
          simp (disch := omega) only [go_sem, Nat.reduceEqDiff, Nat.reduceAdd, Nat.reduceMul, Nat.reduceSub, Nat.reduceLeDiff, ↓reduceIte, reduceCtorEq, Int.reduceAdd, Int.reduceSub, Int.reduceMul, Int.reduceNeg, Int.reduceToNat, List.reduceReplicate, String.reduceEq, e5, e11, e12, e13, e14, e88, e89, e90]
          refine (awake_spec hG _).mono ?_
          rintro _ H1 ⟨rfl, rfl⟩
          simp (disch := omega) only [go_sem, Nat.reduceEqDiff, Nat.reduceAdd, Nat.reduceMul, Nat.reduceSub, Nat.reduceLeDiff, ↓reduceIte, reduceCtorEq, Int.reduceAdd, Int.reduceSub, Int.reduceMul, Int.reduceNeg, Int.reduceToNat, List.reduceReplicate, String.reduceEq]
          exact DFin.sub hv.sub (DFin.refl ⟨rfl, rfl⟩)
    · rw [if_pos hf]
      have hw2 : IntKind.i64.wrap (q2 + (c : Int)) = q2 + (c : Int) := by rw [IntKind.wrap_i64]; omega
      simp (disch := omega) only [go_sem, Nat.reduceEqDiff, Nat.reduceAdd, Nat.reduceMul, Nat.reduceSub, Nat.reduceLeDiff, ↓reduceIte, reduceCtorEq, Int.reduceAdd, Int.reduceSub, Int.reduceMul, Int.reduceNeg, Int.reduceToNat, List.reduceReplicate, String.reduceEq, hf, hw1, hw2, dToks, List.length_nil]
      refine (awake_spec hG _).mono ?_
      rintro _ H1 ⟨rfl, rfl⟩
      simp (disch := omega) only [go_sem, Nat.reduceEqDiff, Nat.reduceAdd, Nat.reduceMul, Nat.reduceSub, Nat.reduceLeDiff, ↓reduceIte, reduceCtorEq, Int.reduceAdd, Int.reduceSub, Int.reduceMul, Int.reduceNeg, Int.reduceToNat, List.reduceReplicate, String.reduceEq]
      exact DFin.sub hv.sub (DFin.refl ⟨rfl, rfl⟩)
  · rw [if_pos he]
    simp (disch := omega) only [go_sem, Nat.reduceEqDiff, Nat.reduceAdd, Nat.reduceMul, Nat.reduceSub, Nat.reduceLeDiff, ↓reduceIte, reduceCtorEq, Int.reduceAdd, Int.reduceSub, Int.reduceMul, Int.reduceNeg, Int.reduceToNat, List.reduceReplicate, String.reduceEq, he, dToks, List.length_nil]
    refine (awake_spec hG _).mono ?_
    rintro _ H1 ⟨rfl, rfl⟩
    simp (disch := omega) only [go_sem, Nat.reduceEqDiff, Nat.reduceAdd, Nat.reduceMul, Nat.reduceSub, Nat.reduceLeDiff, ↓reduceIte, reduceCtorEq, Int.reduceAdd, Int.reduceSub, Int.reduceMul, Int.reduceNeg, Int.reduceToNat, List.reduceReplicate, String.reduceEq]
    exact DFin.sub hv.sub (DFin.refl ⟨rfl, rfl⟩)
end
end Go.Dl

-- Chapter 2: the reading of tokens and lines.
namespace Go.Dl
open Go Go.RowKit Go.Proofs Go.Proofs.YtojpnjngdiimhaaGreatDoor
set_option maxRecDepth 100000

section
variable {H : Type} {w : World}
theorem reads_tok : Reads Tryz.prog H w 27 Tok dTok (fun x d => x.text.length ≤ 9223372036854775807) := by
  have h := reads_struct (H := H) (w := w) Tryz.underlying27 (readsFs_cons (n := 1) (reads_int Tryz.underlying25) rfl (by kernel_rfl) (readsFs_cons (n := 1) (reads_int Tryz.underlying3) rfl (by kernel_rfl) (readsFs_cons (n := 1) (reads_string Tryz.underlying9) rfl (by kernel_rfl) (readsFs_cons (n := 1) (reads_int Tryz.underlying2) rfl (by kernel_rfl) (by
      rw [show Tryz.prog.cellsOf 27 = 0 + 1 + 1 + 1 + 1 by kernel_rfl]
      exact readsFs_nil _)))))
  refine h.map fun x d hg => ⟨⟨x.1, x.2.1, x.2.2.1, x.2.2.2.1⟩, rfl, ?_⟩
  obtain ⟨ds, rfl, d0, ds0, rfl, g0, d1, ds1, rfl, g1, d2, ds2, rfl, g2, _⟩ := hg
  have := g2.1
  unfold maxLen at this
  exact this
def TokG (l : List Tok) : Prop := ∀ t ∈ l, t.text.length ≤ 9223372036854775807
theorem reads_toks : Reads Tryz.prog H w 24 (List Tok) (fun l => [dToks l]) (SlG fun x d => x.text.length ≤ 9223372036854775807) := reads_slice Tryz.underlying24 reads_tok
theorem reads_lin : Reads Tryz.prog H w 32 Lin dLin (fun x d => TokG x.l) := by
  have h := reads_struct (H := H) (w := w) Tryz.underlying32 (readsFs_cons (n := 1) (reads_int Tryz.underlying3) rfl (by kernel_rfl) (readsFs_cons (n := 1) reads_toks rfl (by kernel_rfl) (by
      rw [show Tryz.prog.cellsOf 32 = 0 + 1 + 1 by kernel_rfl]
      exact readsFs_nil _)))
  refine h.map fun x d hg => ⟨⟨x.1, x.2.1⟩, rfl, ?_⟩
  obtain ⟨ds, rfl, d0, ds0, rfl, g0, d1, ds1, rfl, g1, _⟩ := hg
  exact slG_all (p := fun x : Tok => x.text.length ≤ 9223372036854775807) (fun x d h => h) g1
theorem reads_lins : Reads Tryz.prog H w 30 (List Lin) (fun l => [dLins l]) (SlG fun x d => TokG x.l) := reads_slice Tryz.underlying30 reads_lin
theorem toks_g {l : List Tok} {d : DataW H} (h : SlG (fun (x : Tok) (_ : DataW H) => x.text.length ≤ 9223372036854775807) l d) : TokG l := slG_all (p := fun x : Tok => x.text.length ≤ 9223372036854775807) (fun x d h => h) h
theorem lins_g {l : List Lin} {d : DataW H} (h : SlG (fun (x : Lin) (_ : DataW H) => TokG x.l) l d) : ∀ x ∈ l, TokG x.l := slG_all (p := fun x : Lin => TokG x.l) (fun x d h => h) h
end
end Go.Dl

-- Chapter 2: what the rows import.

-- Chapter 2: tokens: the plain laws, part 12: what LexComments, LexAgain and LexLines ask.
namespace Go.Dl
open Go
set_option maxRecDepth 10000

theorem joinL_len : ∀ ls : List (List UInt8), ls ≠ [] → (joinL ls).length + 1 = sumLen ls
  | [], h => absurd rfl h
  | [s], _ => by simp [joinL, sumLen]
  | s :: t :: l, _ => by
    have := joinL_len (t :: l) (by simp)
    rw [joinL, List.length_append, List.length_cons]
    simp only [sumLen, List.map_cons, List.sum_cons] at this ⊢
    omega
theorem sum_modify (b : List UInt8) : ∀ (ls : List (List UInt8)) (k : Nat), sumLen (ls.modify k fun s => s ++ b) ≤ sumLen ls + b.length
  | [], k => by cases k <;> simp [sumLen]
  | s :: ls, 0 => by
    show sumLen ((s ++ b) :: ls) ≤ _
    simp only [sumLen, List.map_cons, List.sum_cons, List.length_append]; omega
  | s :: ls, k + 1 => by
    have := sum_modify b ls k
    show sumLen (s :: ls.modify k _) ≤ _
    simp only [sumLen, List.map_cons, List.sum_cons] at this ⊢; omega
theorem mem_modify (b : List UInt8) : ∀ (ls : List (List UInt8)) (k : Nat), ∀ u ∈ ls.modify k (fun s => s ++ b), u ∈ ls ∨ ∃ s ∈ ls, u = s ++ b
  | [], k, u, hu => by cases k <;> cases hu
  | s :: ls, 0, u, hu => by
    change u ∈ (s ++ b) :: ls at hu
    rcases List.mem_cons.1 hu with rfl | hu
    · exact .inr ⟨s, by simp, rfl⟩
    · exact .inl (by simp [hu])
  | s :: ls, k + 1, u, hu => by
    change u ∈ s :: ls.modify k _ at hu
    rcases List.mem_cons.1 hu with rfl | hu
    · exact .inl (by simp)
    · rcases mem_modify b ls k u hu with h | ⟨w, h, e⟩
      · exact .inl (by simp [h])
      · exact .inr ⟨w, by simp [h], e⟩
theorem plain_no10 {b : List UInt8} (h : plainB b = true) : (10 : UInt8) ∉ b := fun hm => by
  have := List.all_eq_true.1 h 10 hm
  revert this; decide
/-- A comment at the end of a line changes nothing. -/
theorem tokens_com {src b : List UInt8} (hs : src.length ≤ 2000) (hb : b.length ≤ 100) (hp : plainB b = true) (k : Nat) :
    tokensL (joinL ((linesL src).modify k fun s => s ++ 32 :: 45 :: 45 :: b)) = tokensL src ∧ (joinL ((linesL src).modify k fun s => s ++ 32 :: 45 :: 45 :: b)).length ≤ 2103 := by
  have h0 : linesL src ≠ [] := splitBy_ne _ _ _
  have hsum : sumLen (linesL src) = src.length + 0 + 1 := splitBy_sum 10 src []
  obtain ⟨ls, hls⟩ : ∃ ls, ls = (linesL src).modify k fun s => s ++ 32 :: 45 :: 45 :: b := ⟨_, rfl⟩
  have hne : ls ≠ [] := fun e => by
    have h1 : ls.length = (linesL src).length := by rw [hls, List.length_modify]
    rw [e] at h1
    exact h0 (List.length_eq_zero_iff.1 h1.symm)
  have hno : ∀ u ∈ ls, (10 : UInt8) ∉ u := fun u hu hm => by
    have hl : ∀ s ∈ linesL src, (10 : UInt8) ∉ s := fun s hs => splitBy_mem 10 src [] s (by simp) hs
    rw [hls] at hu
    rcases mem_modify _ _ _ u hu with h | ⟨s, h, rfl⟩
    · exact hl u h hm
    · rcases List.mem_append.1 hm with hm | hm
      · exact hl s h hm
      · simp only [List.mem_cons] at hm
        rcases hm with hm | hm | hm | hm
        · exact absurd hm (by decide)
        · exact absurd hm (by decide)
        · exact absurd hm (by decide)
        · exact plain_no10 hp hm
  have hlen := joinL_len ls hne
  have hle : sumLen ls ≤ sumLen (linesL src) + (32 :: 45 :: 45 :: b).length := by rw [hls]; exact sum_modify _ _ _
  simp only [List.length_cons] at hle
  rw [← hls]
  have hl2 : (joinL ls).length ≤ 2103 := by omega
  refine ⟨?_, hl2⟩
  rw [tokens_small (by omega), tokens_small (by omega), lines_join ls hne hno, hls, allY_com b hp]

-- written lines ------------------------------------------------------------------------------------------------------------------
def rowsN : List (List Tok) → Nat → List (List Tok)
  | [], _ => []
  | l :: ls, i => l.map (fun t => { t with line := (i : Int) }) :: rowsN ls (i + 1)
theorem rowsN_len : ∀ (ls : List (List Tok)) (i : Nat), (rowsN ls i).length = ls.length
  | [], _ => rfl
  | l :: ls, i => by rw [rowsN, List.length_cons, List.length_cons, rowsN_len]
theorem numT_rows : ∀ (ls : List (List Tok)) (i j : Nat), numT (rowsN ls i) j = numT ls j
  | [], _, _ => rfl
  | l :: ls, i, j => by
    rw [rowsN, numT, numT, numT_rows ls, List.map_map]; rfl
theorem mayT_line (t : Tok) (n : Int) : mayT { t with line := n } = mayT t := rfl
theorem numT_mem : ∀ (ls : List (List Tok)) (i : Nat), (∀ l ∈ ls, fineT l = true) → ∀ t ∈ numT ls i, (i : Int) ≤ t.line ∧ t.line < ((i + ls.length : Nat) : Int) ∧ mayT t = true
  | [], _, _, t, ht => by cases ht
  | l :: ls, i, hf, t, ht => by
    rw [numT, List.mem_append] at ht
    rcases ht with ht | ht
    · obtain ⟨u, hu, rfl⟩ := List.mem_map.1 ht
      refine ⟨Int.le_refl _, ?_, List.all_eq_true.1 (hf l (by simp)) u hu⟩
      simp only [List.length_cons]; omega
    · obtain ⟨h1, h2, h3⟩ := numT_mem ls (i + 1) (fun m hm => hf m (by simp [hm])) t ht
      refine ⟨by omega, ?_, h3⟩
      simp only [List.length_cons]; omega
theorem numT_sorted : ∀ (ls : List (List Tok)) (i : Nat), (∀ l ∈ ls, fineT l = true) → (numT ls i).Pairwise fun a b => a.line ≤ b.line
  | [], _, _ => List.Pairwise.nil
  | l :: ls, i, hf => by
    rw [numT, List.pairwise_append]
    refine ⟨?_, numT_sorted ls (i + 1) fun m hm => hf m (by simp [hm]), fun a ha b hb => ?_⟩
    · rw [List.pairwise_map]
      exact List.Pairwise.imp (fun _ => Int.le_refl _) (List.pairwise_of_forall (R := fun _ _ => True) (fun _ _ => trivial))
    · obtain ⟨u, _, rfl⟩ := List.mem_map.1 ha
      obtain ⟨h1, _⟩ := numT_mem ls (i + 1) (fun m hm => hf m (by simp [hm])) b hb
      show (i : Int) ≤ b.line
      omega
/-- The tokens of line j. -/
def rowF (L : List Tok) (j : Nat) : List Tok := L.filter fun t => decide (t.line = ((j + 1 : Nat) : Int))
theorem rowF_rows : ∀ (ls : List (List Tok)) (i : Nat), (∀ l ∈ ls, fineT l = true) → (List.range ls.length).map (fun j => (numT ls (i + 1)).filter fun t => decide (t.line = ((i + j + 1 : Nat) : Int))) = rowsN ls (i + 1)
  | [], _, _ => rfl
  | l :: ls, i, hf => by
    have hf2 : ∀ m ∈ ls, fineT m = true := fun m hm => hf m (by simp [hm])
    have ih := rowF_rows ls (i + 1) hf2
    rw [List.length_cons, List.range_succ_eq_map, List.map_cons, rowsN, List.map_map, numT]
    congr 1
    · rw [List.filter_append, List.filter_eq_self.2 (fun t ht => by obtain ⟨u, _, rfl⟩ := List.mem_map.1 ht; exact decide_eq_true rfl), List.filter_eq_nil_iff.2 (fun t ht => by
        obtain ⟨h1, _⟩ := numT_mem ls (i + 1 + 1) hf2 t ht
        simp only [decide_eq_true_eq]; omega), List.append_nil]
    · rw [← ih]
      refine List.map_congr_left fun j _ => ?_
      show List.filter _ _ = _
      rw [List.filter_append, List.filter_eq_nil_iff.2 (fun t ht => by
        obtain ⟨u, _, rfl⟩ := List.mem_map.1 ht
        simp only [decide_eq_true_eq]; omega), List.nil_append]
      refine List.filter_congr fun t _ => ?_
      rw [show i + Nat.succ j + 1 = i + 1 + j + 1 by omega]
theorem numT_rowF {Ls : List (List Tok)} (hf : ∀ l ∈ Ls, fineT l = true) : numT ((List.range Ls.length).map (rowF (numT Ls 1))) 1 = numT Ls 1 := by
  have h := rowF_rows Ls 0 hf
  have e : ((List.range Ls.length).map (rowF (numT Ls 1))) = rowsN Ls 1 := by
    rw [← h]
    refine List.map_congr_left fun j _ => ?_
    rw [rowF, Nat.zero_add]
  rw [e, numT_rows]
theorem rowF_fine {L : List Tok} (h : ∀ t ∈ L, mayT t = true) (j : Nat) : fineT (rowF L j) = true := List.all_eq_true.2 fun t ht => h t (List.mem_filter.1 ht).1
theorem rowF_take {L : List Tok} {k : Nat} (hk : k < L.length) (j : Nat) : rowF (L.take (k + 1)) j = rowF (L.take k) j ++ (if L[k].line = ((j + 1 : Nat) : Int) then [L[k]] else []) := by
  rw [rowF, List.take_add_one, List.getElem?_eq_getElem hk, List.filter_append, rowF]
  congr 1
  rw [Option.toList_some, List.filter_cons]
  by_cases h : L[k].line = ((j + 1 : Nat) : Int)
  · rw [if_pos h, if_pos (decide_eq_true h)]; rfl
  · rw [if_neg h, if_neg (by rw [decide_eq_false h]; simp)]; rfl
theorem rowF_len (L : List Tok) (j : Nat) : (rowF L j).length ≤ L.length := List.length_filter_le _ _
theorem rowF_sum {Ls : List (List Tok)} (hf : ∀ l ∈ Ls, fineT l = true) : (((List.range Ls.length).map (rowF (numT Ls 1))).map (·.length)).sum = (Ls.map (·.length)).sum := by
  rw [← numT_len _ 1, numT_rowF hf, numT_len]
end Go.Dl

-- Chapter 2: LexLines.
namespace Go.Dl
open Go Go.Proofs
set_option maxRecDepth 100000

/-- Two slices of the call's own. -/
def Own2 (H : DHeap) (e1 : TypeId) (s1 n1 : Nat) (cs1 : List DVal) (v1 : DVal) (e2 : TypeId) (s2 n2 : Nat) (cs2 : List DVal) (v2 : DVal) (H' : DHeap) : Prop :=
  ∃ B, OwnJ H e1 s1 n1 cs1 v1 B ∧ OwnJ B e2 s2 n2 cs2 v2 H'
section
variable {H H' : DHeap} {e1 e2 : TypeId} {s1 s2 n1 n2 : Nat} {cs1 cs2 : List DVal} {v1 v2 : DVal}
theorem Own2.swap (h : Own2 H e1 s1 n1 cs1 v1 e2 s2 n2 cs2 v2 H') : Own2 H e2 s2 n2 cs2 v2 e1 s1 n1 cs1 v1 H' := by
  obtain ⟨B, h1, h2⟩ := h
  rcases h2 with ⟨a, b, c, d⟩ | ⟨r2, a, b, c, d, f⟩
  · exact ⟨H, .inl ⟨a, b, c, .refl _⟩, h1.more d⟩
  · refine ⟨upd H r2 (some (.cells cs2 e2)), .inr ⟨r2, h1.sub.lo a, b, c, upd_same _ _ _, (Sub.refl H).up (h1.sub.lo a) _⟩, ?_⟩
    have hs : Sub (upd H r2 (some (.cells cs2 e2))) H' := fun r o hr => by
      simp only [upd] at hr
      split at hr
      · rename_i e; subst e; cases hr; exact d
      · exact f r o (h1.sub r o hr)
    rcases h1 with ⟨a1, b1, c1, d1⟩ | ⟨r1, a1, b1, c1, d1, f1⟩
    · exact .inl ⟨a1, b1, c1, hs⟩
    · have : r1 ≠ r2 := fun e => by rw [e, a] at d1; cases d1
      exact .inr ⟨r1, by simp [upd, this, a1], b1, c1, f _ _ d1, hs⟩
theorem Own2.sub (h : Own2 H e1 s1 n1 cs1 v1 e2 s2 n2 cs2 v2 H') : Sub H H' := by
  obtain ⟨B, h1, h2⟩ := h
  exact h1.sub.trans h2.sub
theorem Own2.more (h : Own2 H e1 s1 n1 cs1 v1 e2 s2 n2 cs2 v2 H') {H2 : DHeap} (k : Sub H' H2) : Own2 H e1 s1 n1 cs1 v1 e2 s2 n2 cs2 v2 H2 := by
  obtain ⟨B, h1, h2⟩ := h
  exact ⟨B, h1, h2.more k⟩
theorem Own2.new (h : Own2 H e1 s1 n1 cs1 v1 e2 s2 n2 cs2 v2 H') {r : Nat} (hr : H' r = none) (x : Option DObj) : Own2 H e1 s1 n1 cs1 v1 e2 s2 n2 cs2 v2 (upd H' r x) := h.more ((Sub.refl H').up hr x)
theorem Own2.j2 (h : Own2 H e1 s1 n1 cs1 v1 e2 s2 n2 cs2 v2 H') : OwnJ H e2 s2 n2 cs2 v2 H' := by
  obtain ⟨B, h1, h2⟩ := h
  exact h2.less h1.sub
theorem Own2.j1 (h : Own2 H e1 s1 n1 cs1 v1 e2 s2 n2 cs2 v2 H') : OwnJ H e1 s1 n1 cs1 v1 H' := h.swap.j2
/-- The second one is looked at, and given back. -/
theorem Own2.open2 (h : Own2 H e1 s1 n1 cs1 v1 e2 s2 n2 cs2 v2 H') : ∃ B, OwnJ B e2 s2 n2 cs2 v2 H' ∧ ∀ {e2' : TypeId} {s2' n2' : Nat} {cs2' : List DVal} {v2' : DVal} {H2 : DHeap}, OwnJ B e2' s2' n2' cs2' v2' H2 → Own2 H e1 s1 n1 cs1 v1 e2' s2' n2' cs2' v2' H2 := by
  obtain ⟨B, h1, h2⟩ := h
  exact ⟨B, h2, fun k => ⟨B, h1, k⟩⟩
theorem Own2.open1 (h : Own2 H e1 s1 n1 cs1 v1 e2 s2 n2 cs2 v2 H') : ∃ B, OwnJ B e1 s1 n1 cs1 v1 H' ∧ ∀ {e1' : TypeId} {s1' n1' : Nat} {cs1' : List DVal} {v1' : DVal} {H2 : DHeap}, OwnJ B e1' s1' n1' cs1' v1' H2 → Own2 H e1' s1' n1' cs1' v1' e2 s2 n2 cs2 v2 H2 := by
  obtain ⟨B, h1, h2⟩ := h.swap.open2
  exact ⟨B, h1, fun k => (h2 k).swap⟩
theorem OwnJ.lend2 {e : TypeId} {size n : Nat} {cs : List DVal} {v : DVal} (h : OwnJ H e size n cs v H') (d : DVal) : ∀ w vs, SimHeap w H' → RelL w H' [d, v] vs → RelL w h0 [d, .vslice cs n] vs := by
  intro w vs hw hv
  simp only [RelL] at hv ⊢
  obtain ⟨y, ys, rfl, h1, z, zs, rfl, h2, rfl⟩ := hv
  obtain ⟨_, _, k3⟩ := h.ghost w hw
  exact ⟨y, _, rfl, Rel.lasts (lasts_h0 H' w) _ _ h1, z, _, rfl, Rel.lasts (lasts_h0 H w) _ _ (k3 z h2), rfl⟩
end

def lineK (k : Nat) (t : Tok) : Tok := { t with line := ((k + 1 : Nat) : Int) }
def normL (x : Lin) : Lin := ⟨(x.depth.tmod 81 + 81).tmod 81, x.l.filter mayT⟩
theorem tmod_81 (d : Int) : -81 < d.tmod 81 ∧ d.tmod 81 < 81 := by
  have h1 : d = 81 * d.tdiv 81 + d.tmod 81 := (Int.mul_tdiv_add_tmod d 81).symm
  rcases Int.le_total 0 d with h | h
  · have := Int.tmod_nonneg 81 h
    have h2 := Int.tmod_lt_of_pos d (b := 81) (by omega)
    omega
  · have h3 : (-d).tmod 81 = -(d.tmod 81) := Int.neg_tmod d 81
    have := Int.tmod_nonneg 81 (show 0 ≤ -d by omega)
    have h2 := Int.tmod_lt_of_pos (-d) (b := 81) (by omega)
    omega
theorem norm_ok (x : Lin) : okLin (normL x) = true ∧ 0 ≤ (normL x).depth ∧ (normL x).depth ≤ 80 := by
  have h1 := tmod_81 x.depth
  have h2 : 0 ≤ (x.depth.tmod 81 + 81).tmod 81 := Int.tmod_nonneg 81 (by omega)
  have h3 := (tmod_81 (x.depth.tmod 81 + 81)).2
  have h4 : 0 ≤ (normL x).depth ∧ (normL x).depth ≤ 80 := ⟨h2, by show (x.depth.tmod 81 + 81).tmod 81 ≤ 80; omega⟩
  refine ⟨?_, h4⟩
  rw [okLin, decide_eq_true h4.1, decide_eq_true h4.2]
  show fineT (x.l.filter mayT) && true && true = true
  rw [fine_filter]; rfl
theorem linesT_X (ls : List Lin) : linesT ls = linesX (ls.map fun x => (x.depth.toNat, x.l)) := by
  rw [linesT, linesX, List.flatMap_map]; rfl
theorem lines_law {ls : List Lin} (hok : ls.all okLin = true) (hlong : ls.any longLin = false) (hlen : (linesT ls).length ≤ 65536) (hn : (ls.map fun x => x.l.length).sum ≤ 8192) :
    tokensL (linesT ls) = (numT (ls.map (·.l)) 1, 0, 0) ∧ (linesT ls).count 10 = ls.length := by
  have hf : ∀ x ∈ ls.map (fun x : Lin => (x.depth.toNat, x.l)), fineT x.2 = true := fun x hx => by
    obtain ⟨y, hy, rfl⟩ := List.mem_map.1 hx
    have := List.all_eq_true.1 hok y hy
    simp only [okLin, Bool.and_eq_true] at this
    exact this.1.1
  rw [linesT_X] at hlen ⊢
  refine ⟨?_, ?_⟩
  · rw [tokens_lines hf hlen (by rw [List.map_map]; exact hn), List.map_map]; rfl
  · have h1 := linesX_lines _ hf
    have h2 := splitBy_count 10 (linesX (ls.map fun x => (x.depth.toNat, x.l))) []
    rw [linesL] at h1
    rw [h1, List.length_append, List.length_map, List.length_map, List.length_singleton] at h2
    omega
theorem lines_sum {ls : List Lin} (hok : ls.all okLin = true) (hlong : ls.any longLin = false) (h30 : ls.length ≤ 30) : (ls.map fun x => x.l.length).sum ≤ 8192 := by
  have h1 : ∀ l ∈ ls.map (·.l), l.length ≤ 256 := fun l hl => by
    obtain ⟨x, hx, rfl⟩ := List.mem_map.1 hl
    have h2 := List.all_eq_true.1 hok x hx
    simp only [okLin, Bool.and_eq_true, decide_eq_true_eq] at h2
    have h3 : ¬ longLin x = true := fun h => by
      have := List.any_eq_true.2 ⟨x, hx, h⟩
      rw [hlong] at this; cases this
    rw [longLin, decide_eq_true_eq] at h3
    have h4 := (joinR_len x.l none h2.1.1).1
    rw [joinT] at h3; omega
  have h2 := sum_le h1
  rw [List.map_map, List.length_map] at h2
  have h3 : ((fun x : List Tok => x.length) ∘ fun x : Lin => x.l) = fun x : Lin => x.l.length := rfl
  rw [h3] at h2
  omega
theorem numT_snoc : ∀ (ls : List (List Tok)) (l : List Tok) (i : Nat), numT (ls ++ [l]) i = numT ls i ++ l.map (fun t => { t with line := ((i + ls.length : Nat) : Int) })
  | [], l, i => by rw [List.nil_append, numT, numT, numT, List.append_nil, List.nil_append]; rfl
  | m :: ls, l, i => by
    rw [List.cons_append, numT, numT_snoc ls, numT, List.append_assoc, List.length_cons, show i + 1 + ls.length = i + (ls.length + 1) by omega]
section
variable {G : Nat → DVal} {H : DHeap}
set_option maxHeartbeats 4000000 in
theorem lexLinesL_spec (hG : GX G) (H : DHeap) (ls : List Lin) (hT : ∀ x ∈ ls, ∀ t ∈ x.l, t.text.length ≤ 9223372036854775807) : DCalls Tryz.prog G 9 [dLins ls] H (DRet (.bool true) H) := by
  refine dcalls_intro Tryz.func9 Tryz.call9 rfl (by kernel_rfl) ?_
  by_cases h1 : 30 < ls.length
  · have h1' : (30 : Int) < (ls.length : Int) := by omega
    simp (disch := omega) only [go_sem, Nat.reduceEqDiff, Nat.reduceAdd, Nat.reduceMul, Nat.reduceSub, Nat.reduceLeDiff, ↓reduceIte, reduceCtorEq, Int.reduceAdd, Int.reduceSub, Int.reduceMul, Int.reduceNeg, Int.reduceToNat, List.reduceReplicate, String.reduceEq, dLins, h1']
    refine (awake_spec hG _).mono ?_
    rintro _ H1 ⟨rfl, rfl⟩
    simp (disch := omega) only [go_sem, Nat.reduceEqDiff, Nat.reduceAdd, Nat.reduceMul, Nat.reduceSub, Nat.reduceLeDiff, ↓reduceIte, reduceCtorEq, Int.reduceAdd, Int.reduceSub, Int.reduceMul, Int.reduceNeg, Int.reduceToNat, List.reduceReplicate, String.reduceEq]
    exact DFin.refl ⟨rfl, rfl⟩
  have h1' : ¬ (30 : Int) < (ls.length : Int) := by omega
  simp (disch := omega) only [go_sem, Nat.reduceEqDiff, Nat.reduceAdd, Nat.reduceMul, Nat.reduceSub, Nat.reduceLeDiff, ↓reduceIte, reduceCtorEq, Int.reduceAdd, Int.reduceSub, Int.reduceMul, Int.reduceNeg, Int.reduceToNat, List.reduceReplicate, String.reduceEq, dLins, h1']
  obtain ⟨ys, hys⟩ : ∃ ys, ys = ls.map normL := ⟨_, rfl⟩
  have hyl : ys.length = ls.length := by rw [hys, List.length_map]
  have hyk : ∀ k (hk : k < ls.length), ys[k]'(by omega) = normL ls[k] := fun k hk => by simp only [hys, List.getElem_map]
  have hyok : ys.all okLin = true := List.all_eq_true.2 fun y hy => by
    rw [hys] at hy
    obtain ⟨x, _, rfl⟩ := List.mem_map.1 hy
    exact (norm_ok x).1
  obtain ⟨I, hI⟩ : ∃ I : Nat → (Nat → DVal) → DHeap → Prop, ∀ k env heap, I k env heap ↔ (env 19 = .vslice (ls.flatMap dLin) ls.length ∧ env 20 = dI ls.length ∧ env 21 = dI k ∧ k ≤ ls.length ∧ (∀ x ∈ ls.take k, x.l.length ≤ 400) ∧ Own2 H 32 2 (ys.take k).length ((ys.take k).flatMap dLin) (env 3) 27 4 (numT ((ys.take k).map (·.l)) 1).length ((numT ((ys.take k).map (·.l)) 1).flatMap dTok) (env 4) heap) := ⟨_, fun _ _ _ => Iff.rfl⟩
  refine DLoop.run I (fun k => ls.length - k) 0 ((hI _ _ _).2 ?_) ?_
  · simp (disch := omega) only [go_sem, Nat.reduceEqDiff, Nat.reduceAdd, Nat.reduceMul, Nat.reduceSub, Nat.reduceLeDiff, ↓reduceIte, reduceCtorEq, Int.reduceAdd, Int.reduceSub, Int.reduceMul, Int.reduceNeg, Int.reduceToNat, List.reduceReplicate, String.reduceEq]
    (repeat' apply And.intro) <;> (try first | rfl | assumption | omega)
    · intro x hx; simp at hx
    · exact ⟨H, OwnJ.nil _ _ (Sub.refl _), OwnJ.nil _ _ (Sub.refl _)⟩
  · intro k env heap hi
    obtain ⟨e19, e20, e21, hk, hno, hv⟩ := (hI _ _ _).1 hi
    obtain ⟨v3, e3⟩ : ∃ v, env 3 = v := ⟨_, rfl⟩
    obtain ⟨v4, e4⟩ : ∃ v, env 4 = v := ⟨_, rfl⟩
    rw [e3, e4] at hv
    by_cases hlt : k < ls.length
    · have hlt' : (k : Int) < (ls.length : Int) := by omega
      have hget := flat_el dLin_len ls k hlt
      have hfl := flat_len dLin_len ls
      have hwd : IntKind.i64.wrap ((k : Int) + 1) = ((k + 1 : Nat) : Int) := by rw [IntKind.wrap_i64]; omega
      simp (disch := omega) only [go_sem, Nat.reduceEqDiff, Nat.reduceAdd, Nat.reduceMul, Nat.reduceSub, Nat.reduceLeDiff, ↓reduceIte, reduceCtorEq, Int.reduceAdd, Int.reduceSub, Int.reduceMul, Int.reduceNeg, Int.reduceToNat, List.reduceReplicate, String.reduceEq, e3, e4, e19, e20, e21, hlt', hget, hfl, Int.toNat_natCast]
      intro r6 hr6; dsimp only at hr6
      by_cases hb : 400 < ls[k].l.length
      · have hb' : (400 : Int) < (ls[k].l.length : Int) := by omega
        simp (disch := omega) only [go_sem, Nat.reduceEqDiff, Nat.reduceAdd, Nat.reduceMul, Nat.reduceSub, Nat.reduceLeDiff, ↓reduceIte, reduceCtorEq, Int.reduceAdd, Int.reduceSub, Int.reduceMul, Int.reduceNeg, Int.reduceToNat, List.reduceReplicate, String.reduceEq, e3, e4, e19, e20, e21, dLin_len, dLin_t2, dLin_one, dLin_0, dLin_1, dToks, hb', List.append_nil]
        refine (awake_spec hG _).mono ?_
        rintro _ H1 ⟨rfl, rfl⟩
        simp (disch := omega) only [go_sem, Nat.reduceEqDiff, Nat.reduceAdd, Nat.reduceMul, Nat.reduceSub, Nat.reduceLeDiff, ↓reduceIte, reduceCtorEq, Int.reduceAdd, Int.reduceSub, Int.reduceMul, Int.reduceNeg, Int.reduceToNat, List.reduceReplicate, String.reduceEq]
        exact DFin.sub (hv.new hr6 _).sub (DFin.refl ⟨rfl, rfl⟩)
      have hb' : ¬ (400 : Int) < (ls[k].l.length : Int) := by omega
      have hw81 : IntKind.i64.wrap (ls[k].depth.tmod 81 + 81) = ls[k].depth.tmod 81 + 81 := by
        have := tmod_81 ls[k].depth
        rw [IntKind.wrap_i64]; omega
      simp (disch := omega) only [go_sem, Nat.reduceEqDiff, Nat.reduceAdd, Nat.reduceMul, Nat.reduceSub, Nat.reduceLeDiff, ↓reduceIte, reduceCtorEq, Int.reduceAdd, Int.reduceSub, Int.reduceMul, Int.reduceNeg, Int.reduceToNat, List.reduceReplicate, String.reduceEq, e3, e4, e19, e20, e21, dLin_len, dLin_t2, dLin_one, dLin_0, dLin_1, dToks, hb', List.append_nil]
      refine dwp_draws (by kernel_rfl) (.take 0 (.take 1 (.take 2 (.take 3 (.take 4 (.take 5 (.take 6 (.alt (.go 9 [6, 1] (.go 7 [1] (.take 8 (.go 10 [] .done)))) (.go 7 [1] (.take 8 (.go 9 [6, 1] (.go 10 [] .done)))))))))))) (by kernel_rfl) ?_
      simp (disch := omega) only [go_sem, Nat.reduceEqDiff, Nat.reduceAdd, Nat.reduceMul, Nat.reduceSub, Nat.reduceLeDiff, ↓reduceIte, reduceCtorEq, Int.reduceAdd, Int.reduceSub, Int.reduceMul, Int.reduceNeg, Int.reduceToNat, List.reduceReplicate, String.reduceEq, e3, e4, e19, e20, e21, dLin_len, dLin_t2, dLin_one, dLin_0, dLin_1, dToks, hb', hw81, List.append_nil]
      obtain ⟨q, hq⟩ : ∃ q, q = ls[k].l.filter mayT := ⟨_, rfl⟩
      obtain ⟨dd, hdd⟩ : ∃ dd, dd = (ls[k].depth.tmod 81 + 81).tmod 81 := ⟨_, rfl⟩
      have hyq : ys[k]'(by omega) = ⟨dd, q⟩ := by rw [hyk k hlt, hq, hdd]; rfl
      have hql : q.length ≤ 400 := by
        have := List.length_filter_le mayT ls[k].l
        rw [hq]; omega
      obtain ⟨A, hA⟩ : ∃ A, A = numT ((ys.take k).map (·.l)) 1 := ⟨_, rfl⟩
      have hAl : A.length ≤ 12000 := by
        have h1 : ∀ l ∈ (ys.take k).map (·.l), l.length ≤ 400 := fun l hl => by
          obtain ⟨y, hy, rfl⟩ := List.mem_map.1 hl
          rw [hys, ← List.map_take] at hy
          obtain ⟨x, hx, rfl⟩ := List.mem_map.1 hy
          have h2 := hno x hx
          have h3 := List.length_filter_le mayT x.l
          show (x.l.filter mayT).length ≤ 400
          omega
        have h2 := sum_le h1
        rw [List.length_map, List.length_take] at h2
        rw [hA, numT_len]; omega
      have hA2 : numT ((ys.take (k + 1)).map (·.l)) 1 = A ++ q.map (lineK k) := by
        rw [List.take_add_one, List.getElem?_eq_getElem (by omega), Option.toList_some, List.map_append, List.map_cons, List.map_nil, numT_snoc, ← hA, hyq, List.length_map, List.length_take, Nat.min_eq_left (by omega), Nat.add_comm 1 k]; rfl
      have hY2 : (ys.take (k + 1)).length = (ys.take k).length + 1 := by rw [List.length_take, List.length_take]; omega
      have hYl : (ys.take k).length ≤ 30 := by rw [List.length_take]; omega
      have hY3 : (ys.take (k + 1)).flatMap dLin = (ys.take k).flatMap dLin ++ [DVal.int IntKind.i64 dd, DVal.vslice (q.flatMap dTok) q.length] := by
        rw [List.take_add_one, List.getElem?_eq_getElem (by omega), Option.toList_some, List.flatMap_append, List.flatMap_singleton, hyq]; rfl
      rw [← hA] at hv
      have hrep : repl 1 [DVal.int IntKind.i64 0, DVal.nilSlice] = [DVal.int IntKind.i64 0, DVal.nilSlice] := rfl
      have hrep4 : repl 1 [DVal.int IntKind.u8 0, DVal.int IntKind.i64 0, DVal.str [], DVal.int IntKind.i64 0] = [DVal.int IntKind.u8 0, DVal.int IntKind.i64 0, DVal.str [], DVal.int IntKind.i64 0] := rfl
      refine ⟨?_, ?_⟩
      · intro r7 hr7; dsimp only at hr7
        obtain ⟨a1, a2, hr7'⟩ := upd_eq_none.1 hr7
        simp (disch := omega) only [go_sem, Nat.reduceEqDiff, Nat.reduceAdd, Nat.reduceMul, Nat.reduceSub, Nat.reduceLeDiff, ↓reduceIte, reduceCtorEq, Int.reduceAdd, Int.reduceSub, Int.reduceMul, Int.reduceNeg, Int.reduceToNat, List.reduceReplicate, String.reduceEq, e3, e4, e19, e20, e21, a1, a2, dLin_len, dLin_t2, dLin_one, dLin_0, dLin_1, dToks, hb', hw81, List.append_nil]
        refine (known_spec G _ ls[k].l (by omega)).mono ?_
        rintro _ H1 ⟨rfl, rfl⟩
        rw [← hq, ← hdd]
        simp (disch := omega) only [go_sem, Nat.reduceEqDiff, Nat.reduceAdd, Nat.reduceMul, Nat.reduceSub, Nat.reduceLeDiff, ↓reduceIte, reduceCtorEq, Int.reduceAdd, Int.reduceSub, Int.reduceMul, Int.reduceNeg, Int.reduceToNat, List.reduceReplicate, String.reduceEq, e3, e4, e19, e20, e21, a1, a2, dLin_len, dLin_t2, dLin_one, dLin_0, dLin_1, dToks, hb', hw81, List.append_nil]
        rw [hrep]
        simp (disch := omega) only [go_sem, Nat.reduceEqDiff, Nat.reduceAdd, Nat.reduceMul, Nat.reduceSub, Nat.reduceLeDiff, ↓reduceIte, reduceCtorEq, Int.reduceAdd, Int.reduceSub, Int.reduceMul, Int.reduceNeg, Int.reduceToNat, List.reduceReplicate, String.reduceEq, List.length_cons, List.length_nil, List.drop_succ_cons, List.drop_zero, List.append_nil, e3]
        intro ns hns; dsimp only at hns
        simp (disch := omega) only [go_sem, Nat.reduceEqDiff, Nat.reduceAdd, Nat.reduceMul, Nat.reduceSub, Nat.reduceLeDiff, ↓reduceIte, reduceCtorEq, Int.reduceAdd, Int.reduceSub, Int.reduceMul, Int.reduceNeg, Int.reduceToNat, List.reduceReplicate, String.reduceEq, e3, e4, e19, e20, e21, a1, a2, List.append_nil]
        obtain ⟨B, hvB, hback⟩ := (hv.new hr6 (some (DObj.cells (dLin ls[k]) 32))).open1
        have hB7 : B r7 = none := hvB.sub.lo hr7
        refine OwnJ.append (m := 1) ((hvB.frame hr7 (DObj.cells [DVal.int IntKind.i64 dd, DVal.vslice (q.flatMap dTok) q.length] 32)).new hns _) rfl (by omega) fun v3' H3 hv3 => ?_
        have h73 : H3 r7 = some (DObj.cells [DVal.int IntKind.i64 dd, DVal.vslice (q.flatMap dTok) q.length] 32) := hv3.keep (upd_same _ _ _)
        have hv' := hback (hv3.less ((Sub.refl B).up hB7 _))
        rw [← hY2, ← hY3] at hv'
        simp (disch := omega) only [go_sem, Nat.reduceEqDiff, Nat.reduceAdd, Nat.reduceMul, Nat.reduceSub, Nat.reduceLeDiff, ↓reduceIte, reduceCtorEq, Int.reduceAdd, Int.reduceSub, Int.reduceMul, Int.reduceNeg, Int.reduceToNat, List.reduceReplicate, String.reduceEq, e3, e4, e19, e20, e21, h73, dToks]
        obtain ⟨J, hJ⟩ : ∃ J : Nat → (Nat → DVal) → DHeap → Prop, ∀ m env heap, J m env heap ↔ (env 3 = v3' ∧ env 5 = dI k ∧ env 19 = .vslice (ls.flatMap dLin) ls.length ∧ env 20 = dI ls.length ∧ env 21 = dI k ∧ env 45 = .vslice (q.flatMap dTok) q.length ∧ env 46 = dI q.length ∧ env 47 = dI m ∧ m ≤ q.length ∧ Own2 H 32 2 (ys.take (k + 1)).length ((ys.take (k + 1)).flatMap dLin) v3' 27 4 (A ++ (q.take m).map (lineK k)).length ((A ++ (q.take m).map (lineK k)).flatMap dTok) (env 4) heap) := ⟨_, fun _ _ _ => Iff.rfl⟩
        refine DLoop.run J (fun m => q.length - m) 0 ((hJ _ _ _).2 ?_) ?_
        · simp (disch := omega) only [go_sem, Nat.reduceEqDiff, Nat.reduceAdd, Nat.reduceMul, Nat.reduceSub, Nat.reduceLeDiff, ↓reduceIte, reduceCtorEq, Int.reduceAdd, Int.reduceSub, Int.reduceMul, Int.reduceNeg, Int.reduceToNat, List.reduceReplicate, String.reduceEq, e3, e4, e19, e20, e21]
          (repeat' apply And.intro) <;> (try first | rfl | assumption | omega)
          simpa using hv'
        · intro m env hp hi
          obtain ⟨e3, e5, e19, e20, e21, e45, e46, e47, hm, hw⟩ := (hJ _ _ _).1 hi
          obtain ⟨w4, e4⟩ : ∃ v, env 4 = v := ⟨_, rfl⟩
          rw [e4] at hw
          by_cases hlm : m < q.length
          · have hlm' : (m : Int) < (q.length : Int) := by omega
            have hgq := flat_el dTok_len q m hlm
            have hfq := flat_len dTok_len q
            have hwm : IntKind.i64.wrap ((m : Int) + 1) = ((m + 1 : Nat) : Int) := by rw [IntKind.wrap_i64]; omega
            have hsp : splice (dTok q[m]) 1 [dI ((k + 1 : Nat) : Int)] = dTok (lineK k q[m]) := rfl
            simp (disch := omega) only [go_sem, Nat.reduceEqDiff, Nat.reduceAdd, Nat.reduceMul, Nat.reduceSub, Nat.reduceLeDiff, ↓reduceIte, reduceCtorEq, Int.reduceAdd, Int.reduceSub, Int.reduceMul, Int.reduceNeg, Int.reduceToNat, List.reduceReplicate, String.reduceEq, e3, e4, e5, e19, e20, e21, e45, e46, e47, hlm', hgq, hfq, hwd, Int.toNat_natCast]
            intro r9 hr9; dsimp only at hr9
            simp (disch := omega) only [go_sem, Nat.reduceEqDiff, Nat.reduceAdd, Nat.reduceMul, Nat.reduceSub, Nat.reduceLeDiff, ↓reduceIte, reduceCtorEq, Int.reduceAdd, Int.reduceSub, Int.reduceMul, Int.reduceNeg, Int.reduceToNat, List.reduceReplicate, String.reduceEq, e3, e4, e5, e19, e20, e21, e45, e46, e47, dTok_len, dTok_t4, dTok_d4, dTok_one, hwd, hsp, List.append_nil]
            rw [hrep4]
            simp (disch := omega) only [go_sem, Nat.reduceEqDiff, Nat.reduceAdd, Nat.reduceMul, Nat.reduceSub, Nat.reduceLeDiff, ↓reduceIte, reduceCtorEq, Int.reduceAdd, Int.reduceSub, Int.reduceMul, Int.reduceNeg, Int.reduceToNat, List.reduceReplicate, String.reduceEq, List.length_cons, List.length_nil, List.drop_succ_cons, List.drop_zero, List.append_nil, e4]
            intro nt hnt; dsimp only at hnt
            simp (disch := omega) only [go_sem, Nat.reduceEqDiff, Nat.reduceAdd, Nat.reduceMul, Nat.reduceSub, Nat.reduceLeDiff, ↓reduceIte, reduceCtorEq, Int.reduceAdd, Int.reduceSub, Int.reduceMul, Int.reduceNeg, Int.reduceToNat, List.reduceReplicate, String.reduceEq, e3, e4, e5, e19, e20, e21, e45, e46, e47, dTok_len, dTok_t4, dTok_d4, dTok_one, List.append_nil]
            obtain ⟨C, hC, hcb⟩ := ((hw.new hr9 (some (DObj.cells (dTok (lineK k q[m])) 27))).new hnt _).open2
            refine OwnJ.append (m := 1) hC rfl (by simp only [List.length_append, List.length_map, List.length_take]; omega) fun w4' H5 hv5 => ?_
            have hw2 := hcb hv5
            simp (disch := omega) only [go_sem, Nat.reduceEqDiff, Nat.reduceAdd, Nat.reduceMul, Nat.reduceSub, Nat.reduceLeDiff, ↓reduceIte, reduceCtorEq, Int.reduceAdd, Int.reduceSub, Int.reduceMul, Int.reduceNeg, Int.reduceToNat, List.reduceReplicate, String.reduceEq, e3, e4, e5, e19, e20, e21, e45, e46, e47]
            refine ⟨m + 1, _, GhostS.refl _, (hJ _ _ _).2 ?_, by omega⟩
            simp (disch := omega) only [go_sem, Nat.reduceEqDiff, Nat.reduceAdd, Nat.reduceMul, Nat.reduceSub, Nat.reduceLeDiff, ↓reduceIte, reduceCtorEq, Int.reduceAdd, Int.reduceSub, Int.reduceMul, Int.reduceNeg, Int.reduceToNat, List.reduceReplicate, String.reduceEq, e3, e4, e5, e19, e20, e21, e45, e46, e47, hwm]
            (repeat' apply And.intro) <;> (try first | rfl | assumption | omega)
            have htq : (q.take (m + 1)).map (lineK k) = (q.take m).map (lineK k) ++ [lineK k q[m]] := by
              rw [List.take_add_one, List.getElem?_eq_getElem hlm, Option.toList_some, List.map_append]; rfl
            rw [htq, ← List.append_assoc, flat_snoc, List.length_append, List.length_singleton]
            exact hw2
          · have : m = q.length := by omega
            subst this
            rw [List.take_length, ← hA2] at hw
            simp (disch := omega) only [go_sem, Nat.reduceEqDiff, Nat.reduceAdd, Nat.reduceMul, Nat.reduceSub, Nat.reduceLeDiff, ↓reduceIte, reduceCtorEq, Int.reduceAdd, Int.reduceSub, Int.reduceMul, Int.reduceNeg, Int.reduceToNat, List.reduceReplicate, String.reduceEq, e3, e4, e5, e19, e20, e21, e45, e46, e47]
            refine ⟨k + 1, _, GhostS.refl _, (hI _ _ _).2 ?_, by omega⟩
            simp (disch := omega) only [go_sem, Nat.reduceEqDiff, Nat.reduceAdd, Nat.reduceMul, Nat.reduceSub, Nat.reduceLeDiff, ↓reduceIte, reduceCtorEq, Int.reduceAdd, Int.reduceSub, Int.reduceMul, Int.reduceNeg, Int.reduceToNat, List.reduceReplicate, String.reduceEq, e3, e4, e5, e19, e20, e21, e45, e46, e47, hwd]
            (repeat' apply And.intro) <;> (try first | rfl | assumption | omega)
            exact take_next (p := fun x => x.l.length ≤ 400) hlt hno (by omega)
      · skip
        refine (known_spec G _ ls[k].l (by omega)).mono ?_
        rintro _ H1 ⟨rfl, rfl⟩
        rw [← hq, ← hdd]
        simp (disch := omega) only [go_sem, Nat.reduceEqDiff, Nat.reduceAdd, Nat.reduceMul, Nat.reduceSub, Nat.reduceLeDiff, ↓reduceIte, reduceCtorEq, Int.reduceAdd, Int.reduceSub, Int.reduceMul, Int.reduceNeg, Int.reduceToNat, List.reduceReplicate, String.reduceEq, e3, e4, e19, e20, e21, dLin_len, dLin_t2, dLin_one, dLin_0, dLin_1, dToks, hb', hw81, List.append_nil]
        intro r7 hr7; dsimp only at hr7
        obtain ⟨a1, a2, hr7'⟩ := upd_eq_none.1 hr7
        simp (disch := omega) only [go_sem, Nat.reduceEqDiff, Nat.reduceAdd, Nat.reduceMul, Nat.reduceSub, Nat.reduceLeDiff, ↓reduceIte, reduceCtorEq, Int.reduceAdd, Int.reduceSub, Int.reduceMul, Int.reduceNeg, Int.reduceToNat, List.reduceReplicate, String.reduceEq, e3, e4, e19, e20, e21, a1, a2, dLin_len, dLin_t2, dLin_one, dLin_0, dLin_1, dToks, hb', hw81, List.append_nil]
        rw [hrep]
        simp (disch := omega) only [go_sem, Nat.reduceEqDiff, Nat.reduceAdd, Nat.reduceMul, Nat.reduceSub, Nat.reduceLeDiff, ↓reduceIte, reduceCtorEq, Int.reduceAdd, Int.reduceSub, Int.reduceMul, Int.reduceNeg, Int.reduceToNat, List.reduceReplicate, String.reduceEq, List.length_cons, List.length_nil, List.drop_succ_cons, List.drop_zero, List.append_nil, e3]
        intro ns hns; dsimp only at hns
        simp (disch := omega) only [go_sem, Nat.reduceEqDiff, Nat.reduceAdd, Nat.reduceMul, Nat.reduceSub, Nat.reduceLeDiff, ↓reduceIte, reduceCtorEq, Int.reduceAdd, Int.reduceSub, Int.reduceMul, Int.reduceNeg, Int.reduceToNat, List.reduceReplicate, String.reduceEq, e3, e4, e19, e20, e21, a1, a2, List.append_nil]
        obtain ⟨B, hvB, hback⟩ := (hv.new hr6 (some (DObj.cells (dLin ls[k]) 32))).open1
        have hB7 : B r7 = none := hvB.sub.lo hr7
        refine OwnJ.append (m := 1) ((hvB.frame hr7 (DObj.cells [DVal.int IntKind.i64 dd, DVal.vslice (q.flatMap dTok) q.length] 32)).new hns _) rfl (by omega) fun v3' H3 hv3 => ?_
        have h73 : H3 r7 = some (DObj.cells [DVal.int IntKind.i64 dd, DVal.vslice (q.flatMap dTok) q.length] 32) := hv3.keep (upd_same _ _ _)
        have hv' := hback (hv3.less ((Sub.refl B).up hB7 _))
        rw [← hY2, ← hY3] at hv'
        simp (disch := omega) only [go_sem, Nat.reduceEqDiff, Nat.reduceAdd, Nat.reduceMul, Nat.reduceSub, Nat.reduceLeDiff, ↓reduceIte, reduceCtorEq, Int.reduceAdd, Int.reduceSub, Int.reduceMul, Int.reduceNeg, Int.reduceToNat, List.reduceReplicate, String.reduceEq, e3, e4, e19, e20, e21, h73, dToks]
        obtain ⟨J, hJ⟩ : ∃ J : Nat → (Nat → DVal) → DHeap → Prop, ∀ m env heap, J m env heap ↔ (env 3 = v3' ∧ env 5 = dI k ∧ env 19 = .vslice (ls.flatMap dLin) ls.length ∧ env 20 = dI ls.length ∧ env 21 = dI k ∧ env 45 = .vslice (q.flatMap dTok) q.length ∧ env 46 = dI q.length ∧ env 47 = dI m ∧ m ≤ q.length ∧ Own2 H 32 2 (ys.take (k + 1)).length ((ys.take (k + 1)).flatMap dLin) v3' 27 4 (A ++ (q.take m).map (lineK k)).length ((A ++ (q.take m).map (lineK k)).flatMap dTok) (env 4) heap) := ⟨_, fun _ _ _ => Iff.rfl⟩
        refine DLoop.run J (fun m => q.length - m) 0 ((hJ _ _ _).2 ?_) ?_
        · simp (disch := omega) only [go_sem, Nat.reduceEqDiff, Nat.reduceAdd, Nat.reduceMul, Nat.reduceSub, Nat.reduceLeDiff, ↓reduceIte, reduceCtorEq, Int.reduceAdd, Int.reduceSub, Int.reduceMul, Int.reduceNeg, Int.reduceToNat, List.reduceReplicate, String.reduceEq, e3, e4, e19, e20, e21]
          (repeat' apply And.intro) <;> (try first | rfl | assumption | omega)
          simpa using hv'
        · intro m env hp hi
          obtain ⟨e3, e5, e19, e20, e21, e45, e46, e47, hm, hw⟩ := (hJ _ _ _).1 hi
          obtain ⟨w4, e4⟩ : ∃ v, env 4 = v := ⟨_, rfl⟩
          rw [e4] at hw
          by_cases hlm : m < q.length
          · have hlm' : (m : Int) < (q.length : Int) := by omega
            have hgq := flat_el dTok_len q m hlm
            have hfq := flat_len dTok_len q
            have hwm : IntKind.i64.wrap ((m : Int) + 1) = ((m + 1 : Nat) : Int) := by rw [IntKind.wrap_i64]; omega
            have hsp : splice (dTok q[m]) 1 [dI ((k + 1 : Nat) : Int)] = dTok (lineK k q[m]) := rfl
            simp (disch := omega) only [go_sem, Nat.reduceEqDiff, Nat.reduceAdd, Nat.reduceMul, Nat.reduceSub, Nat.reduceLeDiff, ↓reduceIte, reduceCtorEq, Int.reduceAdd, Int.reduceSub, Int.reduceMul, Int.reduceNeg, Int.reduceToNat, List.reduceReplicate, String.reduceEq, e3, e4, e5, e19, e20, e21, e45, e46, e47, hlm', hgq, hfq, hwd, Int.toNat_natCast]
            intro r9 hr9; dsimp only at hr9
            simp (disch := omega) only [go_sem, Nat.reduceEqDiff, Nat.reduceAdd, Nat.reduceMul, Nat.reduceSub, Nat.reduceLeDiff, ↓reduceIte, reduceCtorEq, Int.reduceAdd, Int.reduceSub, Int.reduceMul, Int.reduceNeg, Int.reduceToNat, List.reduceReplicate, String.reduceEq, e3, e4, e5, e19, e20, e21, e45, e46, e47, dTok_len, dTok_t4, dTok_d4, dTok_one, hwd, hsp, List.append_nil]
            rw [hrep4]
            simp (disch := omega) only [go_sem, Nat.reduceEqDiff, Nat.reduceAdd, Nat.reduceMul, Nat.reduceSub, Nat.reduceLeDiff, ↓reduceIte, reduceCtorEq, Int.reduceAdd, Int.reduceSub, Int.reduceMul, Int.reduceNeg, Int.reduceToNat, List.reduceReplicate, String.reduceEq, List.length_cons, List.length_nil, List.drop_succ_cons, List.drop_zero, List.append_nil, e4]
            intro nt hnt; dsimp only at hnt
            simp (disch := omega) only [go_sem, Nat.reduceEqDiff, Nat.reduceAdd, Nat.reduceMul, Nat.reduceSub, Nat.reduceLeDiff, ↓reduceIte, reduceCtorEq, Int.reduceAdd, Int.reduceSub, Int.reduceMul, Int.reduceNeg, Int.reduceToNat, List.reduceReplicate, String.reduceEq, e3, e4, e5, e19, e20, e21, e45, e46, e47, dTok_len, dTok_t4, dTok_d4, dTok_one, List.append_nil]
            obtain ⟨C, hC, hcb⟩ := ((hw.new hr9 (some (DObj.cells (dTok (lineK k q[m])) 27))).new hnt _).open2
            refine OwnJ.append (m := 1) hC rfl (by simp only [List.length_append, List.length_map, List.length_take]; omega) fun w4' H5 hv5 => ?_
            have hw2 := hcb hv5
            simp (disch := omega) only [go_sem, Nat.reduceEqDiff, Nat.reduceAdd, Nat.reduceMul, Nat.reduceSub, Nat.reduceLeDiff, ↓reduceIte, reduceCtorEq, Int.reduceAdd, Int.reduceSub, Int.reduceMul, Int.reduceNeg, Int.reduceToNat, List.reduceReplicate, String.reduceEq, e3, e4, e5, e19, e20, e21, e45, e46, e47]
            refine ⟨m + 1, _, GhostS.refl _, (hJ _ _ _).2 ?_, by omega⟩
            simp (disch := omega) only [go_sem, Nat.reduceEqDiff, Nat.reduceAdd, Nat.reduceMul, Nat.reduceSub, Nat.reduceLeDiff, ↓reduceIte, reduceCtorEq, Int.reduceAdd, Int.reduceSub, Int.reduceMul, Int.reduceNeg, Int.reduceToNat, List.reduceReplicate, String.reduceEq, e3, e4, e5, e19, e20, e21, e45, e46, e47, hwm]
            (repeat' apply And.intro) <;> (try first | rfl | assumption | omega)
            have htq : (q.take (m + 1)).map (lineK k) = (q.take m).map (lineK k) ++ [lineK k q[m]] := by
              rw [List.take_add_one, List.getElem?_eq_getElem hlm, Option.toList_some, List.map_append]; rfl
            rw [htq, ← List.append_assoc, flat_snoc, List.length_append, List.length_singleton]
            exact hw2
          · have : m = q.length := by omega
            subst this
            rw [List.take_length, ← hA2] at hw
            simp (disch := omega) only [go_sem, Nat.reduceEqDiff, Nat.reduceAdd, Nat.reduceMul, Nat.reduceSub, Nat.reduceLeDiff, ↓reduceIte, reduceCtorEq, Int.reduceAdd, Int.reduceSub, Int.reduceMul, Int.reduceNeg, Int.reduceToNat, List.reduceReplicate, String.reduceEq, e3, e4, e5, e19, e20, e21, e45, e46, e47]
            refine ⟨k + 1, _, GhostS.refl _, (hI _ _ _).2 ?_, by omega⟩
            simp (disch := omega) only [go_sem, Nat.reduceEqDiff, Nat.reduceAdd, Nat.reduceMul, Nat.reduceSub, Nat.reduceLeDiff, ↓reduceIte, reduceCtorEq, Int.reduceAdd, Int.reduceSub, Int.reduceMul, Int.reduceNeg, Int.reduceToNat, List.reduceReplicate, String.reduceEq, e3, e4, e5, e19, e20, e21, e45, e46, e47, hwd]
            (repeat' apply And.intro) <;> (try first | rfl | assumption | omega)
            exact take_next (p := fun x => x.l.length ≤ 400) hlt hno (by omega)
    · have : k = ls.length := by omega
      subst this
      rw [← hyl, List.take_length] at hv
      rw [List.take_length] at hno
      have hyl4 : ∀ x ∈ ys, x.l.length ≤ 400 ∧ ∀ t ∈ x.l, t.text.length ≤ 9223372036854775807 := fun y hy => by
        rw [hys] at hy
        obtain ⟨x, hx, rfl⟩ := List.mem_map.1 hy
        have h2 := hno x hx
        have h3 := List.length_filter_le mayT x.l
        exact ⟨show (x.l.filter mayT).length ≤ 400 by omega, fun t ht => hT x hx t (List.mem_filter.1 ht).1⟩
      simp (disch := omega) only [go_sem, Nat.reduceEqDiff, Nat.reduceAdd, Nat.reduceMul, Nat.reduceSub, Nat.reduceLeDiff, ↓reduceIte, reduceCtorEq, Int.reduceAdd, Int.reduceSub, Int.reduceMul, Int.reduceNeg, Int.reduceToNat, List.reduceReplicate, String.reduceEq, e3, e4, e19, e20, e21]
      refine ((lexLines_spec hG h0 ys (by omega) fun x hx => ⟨by have := (hyl4 x hx).1; omega, (hyl4 x hx).2⟩).lent (args := [v3]) (OwnJ.lend hv.j1 []) rfl).mono ?_
      rintro _ H1 ⟨rfl, rfl⟩
      cases hany : ys.any longLin with
      | true =>
        rw [linesD_any hyok hany]
        simp (disch := omega) only [go_sem, Nat.reduceEqDiff, Nat.reduceAdd, Nat.reduceMul, Nat.reduceSub, Nat.reduceLeDiff, ↓reduceIte, reduceCtorEq, Int.reduceAdd, Int.reduceSub, Int.reduceMul, Int.reduceNeg, Int.reduceToNat, List.reduceReplicate, String.reduceEq, e3, e4]
        refine (awake_spec hG _).mono ?_
        rintro _ H1 ⟨rfl, rfl⟩
        simp (disch := omega) only [go_sem, Nat.reduceEqDiff, Nat.reduceAdd, Nat.reduceMul, Nat.reduceSub, Nat.reduceLeDiff, ↓reduceIte, reduceCtorEq, Int.reduceAdd, Int.reduceSub, Int.reduceMul, Int.reduceNeg, Int.reduceToNat, List.reduceReplicate, String.reduceEq]
        exact DFin.sub hv.sub (DFin.refl ⟨rfl, rfl⟩)
      | false =>
        by_cases hbig : 65536 < (linesT ys).length
        · rw [linesD_big hyok hbig]
          simp (disch := omega) only [go_sem, Nat.reduceEqDiff, Nat.reduceAdd, Nat.reduceMul, Nat.reduceSub, Nat.reduceLeDiff, ↓reduceIte, reduceCtorEq, Int.reduceAdd, Int.reduceSub, Int.reduceMul, Int.reduceNeg, Int.reduceToNat, List.reduceReplicate, String.reduceEq, e3, e4]
          refine (awake_spec hG _).mono ?_
          rintro _ H1 ⟨rfl, rfl⟩
          simp (disch := omega) only [go_sem, Nat.reduceEqDiff, Nat.reduceAdd, Nat.reduceMul, Nat.reduceSub, Nat.reduceLeDiff, ↓reduceIte, reduceCtorEq, Int.reduceAdd, Int.reduceSub, Int.reduceMul, Int.reduceNeg, Int.reduceToNat, List.reduceReplicate, String.reduceEq]
          exact DFin.sub hv.sub (DFin.refl ⟨rfl, rfl⟩)
        · rw [linesD_ok hyok hany hbig]
          obtain ⟨hlaw, hcnt⟩ := lines_law hyok hany (by omega) (lines_sum hyok hany (by omega))
          have hsum := lines_sum hyok hany (by omega)
          have hnl : (numT (ys.map (·.l)) 1).length ≤ 8192 := by rw [numT_len, List.map_map]; exact hsum
          simp (disch := omega) only [go_sem, Nat.reduceEqDiff, Nat.reduceAdd, Nat.reduceMul, Nat.reduceSub, Nat.reduceLeDiff, ↓reduceIte, reduceCtorEq, Int.reduceAdd, Int.reduceSub, Int.reduceMul, Int.reduceNeg, Int.reduceToNat, List.reduceReplicate, String.reduceEq, e3, e4]
          refine (lexTokens_spec hG _ (linesT ys) (by omega)).mono ?_
          rintro _ H1 ⟨rfl, rfl⟩
          rw [hlaw]
          simp (disch := omega) only [go_sem, Nat.reduceEqDiff, Nat.reduceAdd, Nat.reduceMul, Nat.reduceSub, Nat.reduceLeDiff, ↓reduceIte, reduceCtorEq, Int.reduceAdd, Int.reduceSub, Int.reduceMul, Int.reduceNeg, Int.reduceToNat, List.reduceReplicate, String.reduceEq, e3, e4]
          refine ((eqL_spec G h0 (numT (ys.map (·.l)) 1) (numT (ys.map (·.l)) 1) (by omega)).lent (args := [dToks (numT (ys.map (·.l)) 1), v4]) (OwnJ.lend2 hv.j2 _) rfl).mono ?_
          rintro _ H1 ⟨rfl, rfl⟩
          rw [decide_eq_true rfl]
          simp (disch := omega) only [go_sem, Nat.reduceEqDiff, Nat.reduceAdd, Nat.reduceMul, Nat.reduceSub, Nat.reduceLeDiff, ↓reduceIte, reduceCtorEq, Int.reduceAdd, Int.reduceSub, Int.reduceMul, Int.reduceNeg, Int.reduceToNat, List.reduceReplicate, String.reduceEq, e3, e4]
          refine (count_spec (G := G) (H := H1) (linesT ys) 10).mono ?_
          rintro _ H1 ⟨rfl, rfl⟩
          rw [hcnt]
          simp (disch := omega) only [go_sem, Nat.reduceEqDiff, Nat.reduceAdd, Nat.reduceMul, Nat.reduceSub, Nat.reduceLeDiff, ↓reduceIte, reduceCtorEq, Int.reduceAdd, Int.reduceSub, Int.reduceMul, Int.reduceNeg, Int.reduceToNat, List.reduceReplicate, String.reduceEq, e3, e4, hv.j1.dLen]
          refine (awake_spec hG _).mono ?_
          rintro _ H1 ⟨rfl, rfl⟩
          simp (disch := omega) only [go_sem, Nat.reduceEqDiff, Nat.reduceAdd, Nat.reduceMul, Nat.reduceSub, Nat.reduceLeDiff, ↓reduceIte, reduceCtorEq, Int.reduceAdd, Int.reduceSub, Int.reduceMul, Int.reduceNeg, Int.reduceToNat, List.reduceReplicate, String.reduceEq]
          exact DFin.sub hv.sub (DFin.refl ⟨rfl, rfl⟩)
end
end Go.Dl

-- Chapter 2: LexAgain.
namespace Go.Dl
open Go Go.Proofs
set_option maxRecDepth 100000

-- rows of tokens of the call's own -------------------------------------------------------------------------------------------------
def RowsT (e : TypeId) (H : DHeap) : List (List Tok) → List DVal → DHeap → Prop
  | [], vs, H' => vs = [] ∧ Sub H H'
  | l :: q, vs, H' => ∃ v vs' B, vs = v :: vs' ∧ RowsT e H q vs' B ∧ OwnJ B e 4 l.length (l.flatMap dTok) v H'
section
variable {e : TypeId} {H H' : DHeap}
theorem RowsT.sub : ∀ {q : List (List Tok)} {vs : List DVal} {H' : DHeap}, RowsT e H q vs H' → Sub H H'
  | [], _, _, h => h.2
  | l :: q, vs, H', h => by
    obtain ⟨v, vs', B, _, h1, h2⟩ := h
    exact h1.sub.trans h2.sub
theorem RowsT.len : ∀ {q : List (List Tok)} {vs : List DVal} {H' : DHeap}, RowsT e H q vs H' → vs.length = q.length
  | [], _, _, h => by rw [h.1]; rfl
  | l :: q, vs, H', h => by
    obtain ⟨v, vs', B, rfl, h1, _⟩ := h
    simp [h1.len]
theorem RowsT.nils (h : Sub H H') : ∀ n : Nat, RowsT e H (List.replicate n []) (List.replicate n .nilSlice) H'
  | 0 => ⟨rfl, h⟩
  | n + 1 => ⟨.nilSlice, _, H', rfl, RowsT.nils h n, OwnJ.nil _ _ (Sub.refl _)⟩
/-- Row i is taken out, and whatever row is put in its place. -/
theorem RowsT.focus : ∀ {q : List (List Tok)} {vs : List DVal} {H' : DHeap}, RowsT e H q vs H' → ∀ (i : Nat) (hi : i < q.length), ∃ v B, vs[i]? = some v ∧ OwnJ B e 4 q[i].length (q[i].flatMap dTok) v H' ∧
    ∀ (l' : List Tok) (v' : DVal) (H2 : DHeap), OwnJ B e 4 l'.length (l'.flatMap dTok) v' H2 → RowsT e H (q.set i l') (vs.set i v') H2
  | l :: q, vs, H', h, 0, hi => by
    obtain ⟨v, vs', B, rfl, h1, h2⟩ := h
    exact ⟨v, B, rfl, h2, fun l' v' H2 k => ⟨v', vs', B, rfl, h1, k⟩⟩
  | l :: q, vs, H', h, i + 1, hi => by
    obtain ⟨v, vs', B, rfl, h1, h2⟩ := h
    obtain ⟨u, B2, g1, g2, g3⟩ := h1.focus i (by simpa using hi)
    obtain ⟨B3, k1, k2⟩ := Own2.swap ⟨B, g2, h2⟩
    refine ⟨u, B3, by simpa using g1, k2, fun l' v' H2 k => ?_⟩
    obtain ⟨B4, m1, m2⟩ := Own2.swap ⟨B3, k1, k⟩
    exact ⟨v, vs'.set i v', B4, rfl, g3 l' v' B4 m1, m2⟩
/-- The cells of lines without depth. -/
def lc (vs : List DVal) : List DVal := vs.flatMap fun v => [.int .i64 0, v]
theorem lc_len (vs : List DVal) : (lc vs).length = vs.length * 2 := flat_len (c := fun v => [DVal.int .i64 0, v]) (k := 2) (fun _ => rfl) vs
theorem lc_get {vs : List DVal} {j : Nat} (h : j < vs.length) : (lc vs)[j * 2 + 1]? = some vs[j] := flat_get (c := fun v => [DVal.int .i64 0, v]) (k := 2) (fun _ => rfl) vs j h 1 (by omega)
theorem lc_set : ∀ {vs : List DVal} {j : Nat} (v : DVal), j < vs.length → splice (lc vs) (j * 2 + 1) [v] = lc (vs.set j v)
  | u :: vs, 0, v, _ => rfl
  | u :: vs, j + 1, v, h => by
    have ih := lc_set (vs := vs) (j := j) v (by simpa using h)
    rw [List.set_cons_succ, show lc (u :: vs.set j v) = .int .i64 0 :: u :: lc (vs.set j v) from rfl, ← ih, show lc (u :: vs) = .int .i64 0 :: u :: lc vs from rfl, show (j + 1) * 2 + 1 = (j * 2 + 1) + 2 by omega]
    simp [splice]
theorem lc_repl : ∀ n : Nat, repl n [DVal.int .i64 0, DVal.nilSlice] = lc (List.replicate n .nilSlice)
  | 0 => rfl
  | n + 1 => by
    have ih := lc_repl n
    rw [repl] at ih
    rw [repl, List.replicate_succ, List.flatten_cons, ih]; rfl
/-- The slice of lines, its rows, whatever else there is. -/
def LinesT (e ee : TypeId) (H : DHeap) (R : Nat) (q : List (List Tok)) (heap : DHeap) : Prop :=
  ∃ vs B, RowsT e H q vs B ∧ B R = none ∧ heap R = some (.cells (lc vs) ee) ∧ Sub (upd B R (some (.cells (lc vs) ee))) heap
theorem LinesT.sub {ee : TypeId} {R : Nat} {q : List (List Tok)} {heap : DHeap} (h : LinesT e ee H R q heap) : Sub H heap := by
  obtain ⟨vs, B, h1, h2, h3, h4⟩ := h
  exact fun r o hr => h4 r o (h1.sub.new h2 _ r o hr)
theorem LinesT.more {ee : TypeId} {R : Nat} {q : List (List Tok)} {heap heap' : DHeap} (h : LinesT e ee H R q heap) (k : Sub heap heap') : LinesT e ee H R q heap' := by
  obtain ⟨vs, B, h1, h2, h3, h4⟩ := h
  exact ⟨vs, B, h1, h2, k _ _ h3, h4.trans k⟩
theorem LinesT.new {ee : TypeId} {R : Nat} {q : List (List Tok)} {heap : DHeap} (h : LinesT e ee H R q heap) {r : Nat} (hr : heap r = none) (x : Option DObj) : LinesT e ee H R q (upd heap r x) := h.more ((Sub.refl heap).up hr x)
/-- Row i: its slice; what is put in its place. -/
theorem LinesT.row {ee : TypeId} {R : Nat} {q : List (List Tok)} {heap : DHeap} (h : LinesT e ee H R q heap) (i : Nat) (hi : i < q.length) : ∃ (vs : List DVal) (v : DVal) (C : DHeap), vs.length = q.length ∧ heap R = some (.cells (lc vs) ee) ∧ (∃ hv : i < vs.length, vs[i] = v) ∧
    OwnJ C e 4 q[i].length (q[i].flatMap dTok) v heap ∧ C R = some (.cells (lc vs) ee) ∧
    ∀ (l' : List Tok) (v' : DVal) (H2 : DHeap), OwnJ C e 4 l'.length (l'.flatMap dTok) v' H2 → LinesT e ee H R (q.set i l') (upd H2 R (some (.cells (lc (vs.set i v')) ee))) := by
  obtain ⟨vs, B, h1, h2, h3, h4⟩ := h
  obtain ⟨v, D, g1, g2, g3⟩ := h1.focus i hi
  have hl := h1.len
  have hD : D R = none := g2.sub.lo h2
  obtain ⟨hv, e1⟩ := List.getElem?_eq_some_iff.1 g1
  refine ⟨vs, v, upd D R (some (.cells (lc vs) ee)), hl, h3, ⟨hv, e1⟩, (g2.frame h2 _).more h4, upd_same _ _ _, fun l' v' H2 k => ?_⟩
  obtain ⟨H1, k1, k2⟩ := k.exact
  have k3 := k1.unframe hD
  refine ⟨vs.set i v', upd H1 R none, g3 l' v' _ k3.j, upd_same _ _ _, upd_same _ _ _, ?_⟩
  rw [upd_upd]
  exact k2.both _ _
/-- The lines, lent. -/
theorem LinesT.lend {ee : TypeId} {R n : Nat} {q : List (List Tok)} {heap : DHeap} (h : LinesT e ee H R q heap) (hn : n = q.length) : ∀ w vs, SimHeap w heap → RelL w heap [.oslice 2 R 0 n n] vs → RelL w h0 [dLins (q.map fun l => ⟨0, l⟩)] vs := by
  intro w xs hw hx
  obtain ⟨vs, B, h1, h2, h3, h4⟩ := h
  have rows : ∀ {q : List (List Tok)} {vs : List DVal} {B : DHeap} (hR : RowsT e H q vs B) (hs : Sub B (upd heap R none)) (ys : List Value), RelL w (upd heap R none) (lc vs) ys → RelL w h0 ((q.map fun l => (⟨0, l⟩ : Lin)).flatMap dLin) ys := by
    intro q
    induction q with
    | nil =>
      intro vs B hR hs ys hy
      rw [hR.1] at hy
      simpa [lc, RelL] using hy
    | cons l q ih =>
      intro vs B hR hs ys hy
      obtain ⟨v, vs', D, rfl, k1, k2⟩ := hR
      rw [show lc (v :: vs') = .int .i64 0 :: v :: lc vs' from rfl] at hy
      rw [List.map_cons, List.flatMap_cons, show dLin ⟨0, l⟩ = [dI 0, dToks l] from rfl]
      simp only [RelL, List.cons_append, List.nil_append] at hy ⊢
      obtain ⟨y0, ys0, rfl, r0, y1, ys1, rfl, r1, r2⟩ := hy
      have hwR := hw.letGo R
      obtain ⟨_, _, k3⟩ := (k2.more hs).ghost w hwR
      exact ⟨y0, _, rfl, by simpa [Rel] using r0, y1, _, rfl, Rel.lasts (lasts_h0 _ w) _ _ (k3 y1 r1), ih k1 (k2.sub.trans hs) ys1 r2⟩
  have hB : Sub B (upd heap R none) := fun r o hr => by
    have : r ≠ R := fun e => by rw [e, h2] at hr; cases hr
    simp only [upd, if_neg this]
    exact h4 r o (by simp only [upd, if_neg this]; exact hr)
  simp only [RelL] at hx ⊢
  obtain ⟨y, ys, rfl, hy, rfl⟩ := hx
  refine ⟨y, _, rfl, ?_, rfl⟩
  obtain ⟨_, _, k3⟩ := GhostE.fz (v := .oslice 2 R 0 n n) h3 w hw
  have := k3 y hy
  simp only [fz, if_pos, List.drop_zero] at this
  rw [List.take_of_length_le (by rw [lc_len, h1.len]; omega)] at this
  simp only [dLins, Rel] at this ⊢
  obtain ⟨a, cap, rfl, hle, h5⟩ := this
  refine ⟨a, cap, by rw [List.length_map, ← hn], by rw [List.length_map, ← hn]; exact hle, ?_⟩
  rcases h5 with h5 | ⟨b, o, zs, rfl, h6, h7⟩
  · cases vs with
    | nil =>
      have : q = [] := List.length_eq_zero_iff.1 (by rw [← h1.len]; rfl)
      subst this
      exact .inl rfl
    | cons v vs => cases h5
  · exact .inr ⟨b, o, zs, rfl, h6.lasts (lasts_h0 _ w), rows h1 hB zs h7⟩
end
theorem rows_zero (L : List Tok) (n : Nat) : (List.range n).map (rowF (L.take 0)) = List.replicate n [] := by
  refine List.ext_getElem (by simp) fun i h1 h2 => ?_
  simp [rowF]
theorem rows_step {L : List Tok} {n k j : Nat} (hk : k < L.length) (hj : j < n) (hl : L[k].line = ((j + 1 : Nat) : Int)) :
    ((List.range n).map (rowF (L.take k))).set j (rowF (L.take k) j ++ [L[k]]) = (List.range n).map (rowF (L.take (k + 1))) := by
  refine List.ext_getElem (by simp) fun i h1 h2 => ?_
  rw [List.getElem_set]
  simp only [List.getElem_map, List.getElem_range]
  rw [rowF_take hk i]
  by_cases e : j = i
  · subst e
    rw [if_pos rfl, if_pos hl]
  · rw [if_neg e, if_neg (by rw [hl]; omega), List.append_nil]
theorem tokens_errAt {src : List UInt8} (hs : src.length ≤ 3000) (h : (tokensL src).2.2 ≠ 0) : ∃ l, tokensL src = ([], l, 20) ∧ 1 ≤ l ∧ l ≤ ((src.count 10 + 1 : Nat) : Int) := by
  have ht := tokens_small (src := src) (by omega)
  cases he : errY (allY (linesL src) 1) with
  | none =>
    rw [he] at ht
    rw [ht] at h
    exact absurd rfl h
  | some e =>
    rw [he] at ht
    have hk := errY_kind he
    refine ⟨e.1, by rw [ht, ← hk], ?_⟩
    rw [errY, Option.map_eq_some_iff] at he
    obtain ⟨y, hy, rfl⟩ := he
    obtain ⟨_, h2, h3⟩ := allY_line _ _ y (List.mem_of_find?_eq_some hy)
    rw [show (linesL src).length = src.count 10 + 1 by rw [linesL, splitBy_count]] at h3
    show 1 ≤ y.2.2 ∧ y.2.2 ≤ _
    omega
@[go_sem] theorem keepAt_tuple {H H' : DHeap} (l : List DVal) : keepAt H H' (.tuple l) = True := rfl
section
variable {G : Nat → DVal} {H : DHeap}
set_option maxHeartbeats 4000000 in
theorem lexAgain_spec (hG : GX G) (H : DHeap) (src : List UInt8) : DCalls Tryz.prog G 10 [.str src] H (DRet (.bool true) H) := by
  refine dcalls_intro Tryz.func10 Tryz.call10 rfl (by kernel_rfl) ?_
  by_cases h1 : 3000 < src.length
  · have h1' : (3000 : Int) < (src.length : Int) := by omega
    simp (disch := omega) only [go_sem, Nat.reduceEqDiff, Nat.reduceAdd, Nat.reduceMul, Nat.reduceSub, Nat.reduceLeDiff, ↓reduceIte, reduceCtorEq, Int.reduceAdd, Int.reduceSub, Int.reduceMul, Int.reduceNeg, Int.reduceToNat, List.reduceReplicate, String.reduceEq, h1']
    refine (awake_spec hG _).mono ?_
    rintro _ H1 ⟨rfl, rfl⟩
    simp (disch := omega) only [go_sem, Nat.reduceEqDiff, Nat.reduceAdd, Nat.reduceMul, Nat.reduceSub, Nat.reduceLeDiff, ↓reduceIte, reduceCtorEq, Int.reduceAdd, Int.reduceSub, Int.reduceMul, Int.reduceNeg, Int.reduceToNat, List.reduceReplicate, String.reduceEq]
    exact DFin.refl ⟨rfl, rfl⟩
  have h1' : ¬ (3000 : Int) < (src.length : Int) := by omega
  simp (disch := omega) only [go_sem, Nat.reduceEqDiff, Nat.reduceAdd, Nat.reduceMul, Nat.reduceSub, Nat.reduceLeDiff, ↓reduceIte, reduceCtorEq, Int.reduceAdd, Int.reduceSub, Int.reduceMul, Int.reduceNeg, Int.reduceToNat, List.reduceReplicate, String.reduceEq, h1']
  refine (lexTokens_spec hG _ src (by omega)).mono ?_
  rintro _ H1 ⟨rfl, rfl⟩
  have hcl : src.count 10 ≤ src.length := List.count_le_length
  have hw1 : IntKind.i64.wrap ((src.count 10 : Nat) + 1 : Int) = ((src.count 10 + 1 : Nat) : Int) := by rw [IntKind.wrap_i64]; omega
  by_cases he : (tokensL src).2.2 = 0
  · obtain ⟨Ls, hL1, hL2, hL3, hL4⟩ := tokens_again (by omega) he
    have hLc : Ls.length = src.count 10 + 1 := by rw [hL1, linesL, splitBy_count]
    have hmem := numT_mem Ls 1 hL2
    have hsort := numT_sorted Ls 1 hL2
    have hfin := numT_rowF hL2
    have hsum := rowF_sum hL2
    have hLl : (numT Ls 1).length ≤ 3000 := by rw [numT_len]; exact hL4
    rw [hL3]
    obtain ⟨L, hLL⟩ : ∃ L, L = numT Ls 1 := ⟨_, rfl⟩
    rw [← hLL] at hmem hsort hfin hsum hLl ⊢
    obtain ⟨n, hn⟩ : ∃ n, n = src.count 10 + 1 := ⟨_, rfl⟩
    rw [← hn] at hw1 hLc
    rw [hLc] at hmem hfin hsum
    simp (disch := omega) only [go_sem, Nat.reduceEqDiff, Nat.reduceAdd, Nat.reduceMul, Nat.reduceSub, Nat.reduceLeDiff, ↓reduceIte, reduceCtorEq, Int.reduceAdd, Int.reduceSub, Int.reduceMul, Int.reduceNeg, Int.reduceToNat, List.reduceReplicate, String.reduceEq, dToks]
    refine (count_spec (G := G) (H := H1) src 10).mono ?_
    rintro _ H1 ⟨rfl, rfl⟩
    simp (disch := omega) only [go_sem, Nat.reduceEqDiff, Nat.reduceAdd, Nat.reduceMul, Nat.reduceSub, Nat.reduceLeDiff, ↓reduceIte, reduceCtorEq, Int.reduceAdd, Int.reduceSub, Int.reduceMul, Int.reduceNeg, Int.reduceToNat, List.reduceReplicate, String.reduceEq, hw1]
    rw [lc_repl]
    intro R hR; dsimp only at hR
    simp (disch := omega) only [go_sem, Nat.reduceEqDiff, Nat.reduceAdd, Nat.reduceMul, Nat.reduceSub, Nat.reduceLeDiff, ↓reduceIte, reduceCtorEq, Int.reduceAdd, Int.reduceSub, Int.reduceMul, Int.reduceNeg, Int.reduceToNat, List.reduceReplicate, String.reduceEq]
    obtain ⟨I, hI⟩ : ∃ I : Nat → (Nat → DVal) → DHeap → Prop, ∀ k env heap, I k env heap ↔ (env 3 = .vslice (L.flatMap dTok) L.length ∧ env 4 = dI 0 ∧ env 6 = dI n ∧ env 7 = .oslice 2 R 0 n n ∧ env 51 = .vslice (L.flatMap dTok) L.length ∧ env 52 = dI L.length ∧ env 53 = dI k ∧ k ≤ L.length ∧ LinesT 27 32 H1 R ((List.range n).map (rowF (L.take k))) heap) := ⟨_, fun _ _ _ => Iff.rfl⟩
    refine DLoop.run I (fun k => L.length - k) 0 ((hI _ _ _).2 ?_) ?_
    · simp (disch := omega) only [go_sem, Nat.reduceEqDiff, Nat.reduceAdd, Nat.reduceMul, Nat.reduceSub, Nat.reduceLeDiff, ↓reduceIte, reduceCtorEq, Int.reduceAdd, Int.reduceSub, Int.reduceMul, Int.reduceNeg, Int.reduceToNat, List.reduceReplicate, String.reduceEq]
      (repeat' apply And.intro) <;> (try first | rfl | assumption | omega)
      rw [show ([] : List Tok) = L.take 0 from rfl, rows_zero]
      exact ⟨_, H1, RowsT.nils (Sub.refl _) n, hR, upd_same _ _ _, Sub.refl _⟩
    · intro k env heap hi
      obtain ⟨e3, e4, e6, e7, e51, e52, e53, hk, hv⟩ := (hI _ _ _).1 hi
      by_cases hlt : k < L.length
      · have hlt' : (k : Int) < (L.length : Int) := by omega
        have hget := flat_el dTok_len L k hlt
        have hfl := flat_len dTok_len L
        have hwd : IntKind.i64.wrap ((k : Int) + 1) = ((k + 1 : Nat) : Int) := by rw [IntKind.wrap_i64]; omega
        obtain ⟨m1, m2, m3⟩ := hmem L[k] (List.getElem_mem hlt)
        obtain ⟨j, hj⟩ : ∃ j : Nat, L[k].line = ((j + 1 : Nat) : Int) := ⟨(L[k].line - 1).toNat, by omega⟩
        have hjn : j < n := by omega
        have d1 : ¬ ((j + 1 : Nat) : Int) < 1 := by omega
        have d2 : ¬ (n : Int) < ((j + 1 : Nat) : Int) := by omega
        have hl1 : (dTok L[k])[1]? = some (dI ((j + 1 : Nat) : Int)) := by rw [← hj]; rfl
        simp (disch := omega) only [go_sem, Nat.reduceEqDiff, Nat.reduceAdd, Nat.reduceMul, Nat.reduceSub, Nat.reduceLeDiff, ↓reduceIte, reduceCtorEq, Int.reduceAdd, Int.reduceSub, Int.reduceMul, Int.reduceNeg, Int.reduceToNat, List.reduceReplicate, String.reduceEq, e3, e4, e6, e7, e51, e52, e53, hlt', hget, hfl, Int.toNat_natCast]
        intro r9 hr9; dsimp only at hr9
        simp (disch := omega) only [go_sem, Nat.reduceEqDiff, Nat.reduceAdd, Nat.reduceMul, Nat.reduceSub, Nat.reduceLeDiff, ↓reduceIte, reduceCtorEq, Int.reduceAdd, Int.reduceSub, Int.reduceMul, Int.reduceNeg, Int.reduceToNat, List.reduceReplicate, String.reduceEq, e3, e4, e6, e7, e51, e52, e53, dTok_len, dTok_t4, dTok_d4, dTok_one, List.append_nil]
        refine dwp_draws (by kernel_rfl) (.take 0 (.take 1 (.take 2 (.take 3 (.take 4 (.take 5 (.take 6 (.take 7 (.take 8 (.take 9 (.take 10 (.take 11 (.take 12 (.take 13 (.take 14 (.take 15 (.take 16 (.take 17 (.take 18 (.take 19 (.take 20 (.take 21 (.take 22 (.take 23 (.take 24 (.take 25 (.go 26 [20, 14, 5, 1] (.take 27 (.take 28 .done))))))))))))))))))))))))))))) (by kernel_rfl) ?_
        rcases Nat.eq_zero_or_pos k with h0 | hpos
        · have d3 : ¬ (0 : Int) < (k : Int) := by omega
          simp (disch := omega) only [go_sem, Nat.reduceEqDiff, Nat.reduceAdd, Nat.reduceMul, Nat.reduceSub, Nat.reduceLeDiff, ↓reduceIte, reduceCtorEq, Int.reduceAdd, Int.reduceSub, Int.reduceMul, Int.reduceNeg, Int.reduceToNat, List.reduceReplicate, String.reduceEq, e3, e4, e6, e7, e51, e52, e53, dTok_len, dTok_t4, dTok_d4, dTok_one, hl1, d1, d2, d3, List.append_nil]
          refine (may_spec hG _ L[k] (by have := text_le m3; omega)).mono ?_
          rintro _ H2 ⟨rfl, rfl⟩
          rw [m3]
          simp (disch := omega) only [go_sem, Nat.reduceEqDiff, Nat.reduceAdd, Nat.reduceMul, Nat.reduceSub, Nat.reduceLeDiff, ↓reduceIte, reduceCtorEq, Int.reduceAdd, Int.reduceSub, Int.reduceMul, Int.reduceNeg, Int.reduceToNat, List.reduceReplicate, String.reduceEq, e3, e4, e6, e7, e51, e52, e53, dTok_len, dTok_t4, dTok_d4, dTok_one, hl1, List.append_nil]
          refine dwp_draws (by kernel_rfl) (.take 0 (.take 1 (.take 2 (.take 3 (.take 4 (.take 5 (.take 6 (.take 7 (.take 8 (.take 9 (.take 10 (.take 11 (.go 12 [10, 6, 2] (.go 13 [11, 6, 2] (.take 14 (.take 15 (.go 16 [] .done))))))))))))))))) (by kernel_rfl) ?_
          obtain ⟨vs, v, C, hvl, hvR, ⟨hjv, hvj⟩, hC, hCR, hback⟩ := hv.row j (by rw [List.length_map, List.length_range]; exact hjn)
          have hrw : ((List.range n).map (rowF (L.take k)))[j]'(by rw [List.length_map, List.length_range]; exact hjn) = rowF (L.take k) j := by simp only [List.getElem_map, List.getElem_range]
          rw [hrw] at hC
          have nR9 : R ≠ r9 := none_ne hr9 hvR
          have hC9 : C r9 = none := hC.sub.lo hr9
          have hvn : vs.length = n := by rw [hvl, List.length_map, List.length_range]
          have hlg := lc_get hjv
          rw [hvj] at hlg
          have hwj : IntKind.i64.wrap (((j + 1 : Nat) : Int) - 1) = ((j : Nat) : Int) := by rw [IntKind.wrap_i64]; omega
          have hjn' : (j : Int) < (n : Int) := by omega
          have hrep4 : repl 1 [DVal.int IntKind.u8 0, DVal.int IntKind.i64 0, DVal.str [], DVal.int IntKind.i64 0] = [DVal.int IntKind.u8 0, DVal.int IntKind.i64 0, DVal.str [], DVal.int IntKind.i64 0] := rfl
          simp (disch := omega) only [go_sem, Nat.reduceEqDiff, Nat.reduceAdd, Nat.reduceMul, Nat.reduceSub, Nat.reduceLeDiff, ↓reduceIte, reduceCtorEq, Int.reduceAdd, Int.reduceSub, Int.reduceMul, Int.reduceNeg, Int.reduceToNat, List.reduceReplicate, String.reduceEq, e3, e4, e6, e7, e51, e52, e53, dTok_len, dTok_t4, dTok_d4, dTok_one, hl1, hwj, hjn', hvR, nR9, hlg, hrep4, hjn, Int.toNat_natCast, List.append_nil]
          intro ns hns; dsimp only at hns
          have nRs : R ≠ ns := none_ne hns (show upd heap r9 (some (DObj.cells (dTok L[k]) 27)) R = _ by simp only [upd, if_neg nR9]; exact hvR)
          have n9s : r9 ≠ ns := none_ne hns (upd_same _ _ _)
          simp (disch := omega) only [go_sem, Nat.reduceEqDiff, Nat.reduceAdd, Nat.reduceMul, Nat.reduceSub, Nat.reduceLeDiff, ↓reduceIte, reduceCtorEq, Int.reduceAdd, Int.reduceSub, Int.reduceMul, Int.reduceNeg, Int.reduceToNat, List.reduceReplicate, String.reduceEq, e3, e4, e6, e7, e51, e52, e53, dTok_len, dTok_t4, dTok_d4, dTok_one, hl1, hwj, hjn', nRs, n9s, hvR, nR9, hlg, hrep4, hjn, Int.toNat_natCast, List.append_nil]
          have hrl := rowF_len (L.take k) j
          rw [List.length_take] at hrl
          refine OwnJ.append (m := 1) ((hC.frame hr9 (DObj.cells (dTok L[k]) 27)).new hns _) rfl (by omega) fun v' H3 hv3 => ?_
          have hR3 : H3 R = some (.cells (lc vs) 32) := hv3.keep (by simp only [upd, if_neg nR9]; exact hCR)
          have h93 : H3 r9 = some (.cells (dTok L[k]) 27) := hv3.keep (upd_same _ _ _)
          have hls := lc_set v' hjv
          have hll := lc_len vs
          obtain ⟨hc1, hc2⟩ := hv3.cell1
          simp (disch := omega) only [go_sem, Nat.reduceEqDiff, Nat.reduceAdd, Nat.reduceMul, Nat.reduceSub, Nat.reduceLeDiff, ↓reduceIte, reduceCtorEq, Int.reduceAdd, Int.reduceSub, Int.reduceMul, Int.reduceNeg, Int.reduceToNat, List.reduceReplicate, String.reduceEq, e3, e4, e6, e7, e51, e52, e53, h93, n9s, hc1, hc2, dTok_len, hl1, hvn, hwj, hjn', hR3, hjn, hll, hls, Int.toNat_natCast]
          refine ⟨k + 1, _, GhostS.refl _, (hI _ _ _).2 ?_, by omega⟩
          simp (disch := omega) only [go_sem, Nat.reduceEqDiff, Nat.reduceAdd, Nat.reduceMul, Nat.reduceSub, Nat.reduceLeDiff, ↓reduceIte, reduceCtorEq, Int.reduceAdd, Int.reduceSub, Int.reduceMul, Int.reduceNeg, Int.reduceToNat, List.reduceReplicate, String.reduceEq, e3, e4, e6, e7, e51, e52, e53, hwd]
          (repeat' apply And.intro) <;> (try first | rfl | assumption | omega)
          rw [← rows_step hlt hjn hj]
          refine hback (rowF (L.take k) j ++ [L[k]]) v' H3 ?_
          have := hv3.less ((Sub.refl C).up hC9 _)
          rw [List.length_append, List.flatMap_append]
          simpa using this
        · have d3 : (0 : Int) < (k : Int) := by omega
          have hwk : IntKind.i64.wrap ((k : Int) - 1) = ((k - 1 : Nat) : Int) := by rw [IntKind.wrap_i64]; omega
          have hk1 : ((k - 1 : Nat) : Int) < (L.length : Int) := by omega
          have hk2 : k - 1 < L.length := by omega
          have hgk : (L.flatMap dTok)[(k - 1) * 4 + 1]? = some (dI L[k - 1].line) := flat_get dTok_len L (k - 1) hk2 1 (by omega)
          have d4 : ¬ ((j + 1 : Nat) : Int) < L[k - 1].line := by
            have := List.pairwise_iff_getElem.1 hsort (k - 1) k hk2 hlt (by omega)
            omega
          simp (disch := omega) only [go_sem, Nat.reduceEqDiff, Nat.reduceAdd, Nat.reduceMul, Nat.reduceSub, Nat.reduceLeDiff, ↓reduceIte, reduceCtorEq, Int.reduceAdd, Int.reduceSub, Int.reduceMul, Int.reduceNeg, Int.reduceToNat, List.reduceReplicate, String.reduceEq, e3, e4, e6, e7, e51, e52, e53, dTok_len, dTok_t4, dTok_d4, dTok_one, hl1, d1, d2, d3, d4, hwk, hk1, hfl, hgk, Int.toNat_natCast, List.append_nil]
          refine (may_spec hG _ L[k] (by have := text_le m3; omega)).mono ?_
          rintro _ H2 ⟨rfl, rfl⟩
          rw [m3]
          simp (disch := omega) only [go_sem, Nat.reduceEqDiff, Nat.reduceAdd, Nat.reduceMul, Nat.reduceSub, Nat.reduceLeDiff, ↓reduceIte, reduceCtorEq, Int.reduceAdd, Int.reduceSub, Int.reduceMul, Int.reduceNeg, Int.reduceToNat, List.reduceReplicate, String.reduceEq, e3, e4, e6, e7, e51, e52, e53, dTok_len, dTok_t4, dTok_d4, dTok_one, hl1, List.append_nil]
          refine dwp_draws (by kernel_rfl) (.take 0 (.take 1 (.take 2 (.take 3 (.take 4 (.take 5 (.take 6 (.take 7 (.take 8 (.take 9 (.take 10 (.take 11 (.go 12 [10, 6, 2] (.go 13 [11, 6, 2] (.take 14 (.take 15 (.go 16 [] .done))))))))))))))))) (by kernel_rfl) ?_
          obtain ⟨vs, v, C, hvl, hvR, ⟨hjv, hvj⟩, hC, hCR, hback⟩ := hv.row j (by rw [List.length_map, List.length_range]; exact hjn)
          have hrw : ((List.range n).map (rowF (L.take k)))[j]'(by rw [List.length_map, List.length_range]; exact hjn) = rowF (L.take k) j := by simp only [List.getElem_map, List.getElem_range]
          rw [hrw] at hC
          have nR9 : R ≠ r9 := none_ne hr9 hvR
          have hC9 : C r9 = none := hC.sub.lo hr9
          have hvn : vs.length = n := by rw [hvl, List.length_map, List.length_range]
          have hlg := lc_get hjv
          rw [hvj] at hlg
          have hwj : IntKind.i64.wrap (((j + 1 : Nat) : Int) - 1) = ((j : Nat) : Int) := by rw [IntKind.wrap_i64]; omega
          have hjn' : (j : Int) < (n : Int) := by omega
          have hrep4 : repl 1 [DVal.int IntKind.u8 0, DVal.int IntKind.i64 0, DVal.str [], DVal.int IntKind.i64 0] = [DVal.int IntKind.u8 0, DVal.int IntKind.i64 0, DVal.str [], DVal.int IntKind.i64 0] := rfl
          simp (disch := omega) only [go_sem, Nat.reduceEqDiff, Nat.reduceAdd, Nat.reduceMul, Nat.reduceSub, Nat.reduceLeDiff, ↓reduceIte, reduceCtorEq, Int.reduceAdd, Int.reduceSub, Int.reduceMul, Int.reduceNeg, Int.reduceToNat, List.reduceReplicate, String.reduceEq, e3, e4, e6, e7, e51, e52, e53, dTok_len, dTok_t4, dTok_d4, dTok_one, hl1, hwj, hjn', hvR, nR9, hlg, hrep4, hjn, Int.toNat_natCast, List.append_nil]
          intro ns hns; dsimp only at hns
          have nRs : R ≠ ns := none_ne hns (show upd heap r9 (some (DObj.cells (dTok L[k]) 27)) R = _ by simp only [upd, if_neg nR9]; exact hvR)
          have n9s : r9 ≠ ns := none_ne hns (upd_same _ _ _)
          simp (disch := omega) only [go_sem, Nat.reduceEqDiff, Nat.reduceAdd, Nat.reduceMul, Nat.reduceSub, Nat.reduceLeDiff, ↓reduceIte, reduceCtorEq, Int.reduceAdd, Int.reduceSub, Int.reduceMul, Int.reduceNeg, Int.reduceToNat, List.reduceReplicate, String.reduceEq, e3, e4, e6, e7, e51, e52, e53, dTok_len, dTok_t4, dTok_d4, dTok_one, hl1, hwj, hjn', nRs, n9s, hvR, nR9, hlg, hrep4, hjn, Int.toNat_natCast, List.append_nil]
          have hrl := rowF_len (L.take k) j
          rw [List.length_take] at hrl
          refine OwnJ.append (m := 1) ((hC.frame hr9 (DObj.cells (dTok L[k]) 27)).new hns _) rfl (by omega) fun v' H3 hv3 => ?_
          have hR3 : H3 R = some (.cells (lc vs) 32) := hv3.keep (by simp only [upd, if_neg nR9]; exact hCR)
          have h93 : H3 r9 = some (.cells (dTok L[k]) 27) := hv3.keep (upd_same _ _ _)
          have hls := lc_set v' hjv
          have hll := lc_len vs
          obtain ⟨hc1, hc2⟩ := hv3.cell1
          simp (disch := omega) only [go_sem, Nat.reduceEqDiff, Nat.reduceAdd, Nat.reduceMul, Nat.reduceSub, Nat.reduceLeDiff, ↓reduceIte, reduceCtorEq, Int.reduceAdd, Int.reduceSub, Int.reduceMul, Int.reduceNeg, Int.reduceToNat, List.reduceReplicate, String.reduceEq, e3, e4, e6, e7, e51, e52, e53, h93, n9s, hc1, hc2, dTok_len, hl1, hvn, hwj, hjn', hR3, hjn, hll, hls, Int.toNat_natCast]
          refine ⟨k + 1, _, GhostS.refl _, (hI _ _ _).2 ?_, by omega⟩
          simp (disch := omega) only [go_sem, Nat.reduceEqDiff, Nat.reduceAdd, Nat.reduceMul, Nat.reduceSub, Nat.reduceLeDiff, ↓reduceIte, reduceCtorEq, Int.reduceAdd, Int.reduceSub, Int.reduceMul, Int.reduceNeg, Int.reduceToNat, List.reduceReplicate, String.reduceEq, e3, e4, e6, e7, e51, e52, e53, hwd]
          (repeat' apply And.intro) <;> (try first | rfl | assumption | omega)
          rw [← rows_step hlt hjn hj]
          refine hback (rowF (L.take k) j ++ [L[k]]) v' H3 ?_
          have := hv3.less ((Sub.refl C).up hC9 _)
          rw [List.length_append, List.flatMap_append]
          simpa using this
      · have : k = L.length := by omega
        subst this
        rw [List.take_length] at hv
        obtain ⟨rows, hrows⟩ : ∃ rows, rows = (List.range n).map (rowF L) := ⟨_, rfl⟩
        rw [← hrows] at hv hfin hsum
        have hrl : rows.length = n := by rw [hrows, List.length_map, List.length_range]
        have hrl2 : ∀ l ∈ rows, l.length ≤ 3000 ∧ fineT l = true := fun l hl => by
          rw [hrows] at hl
          obtain ⟨i, _, rfl⟩ := List.mem_map.1 hl
          have := rowF_len L i
          exact ⟨by omega, rowF_fine (fun t ht => (hmem t ht).2.2) i⟩
        obtain ⟨ys, hys⟩ : ∃ ys, ys = rows.map fun l => (⟨0, l⟩ : Lin) := ⟨_, rfl⟩
        have hyl : ys.length = n := by rw [hys, List.length_map, hrl]
        have hym : ys.map (·.l) = rows := by rw [hys, List.map_map]; exact List.map_id rows
        have hyok : ys.all okLin = true := List.all_eq_true.2 fun y hy => by
          rw [hys] at hy
          obtain ⟨l, hl, rfl⟩ := List.mem_map.1 hy
          rw [okLin, (hrl2 l hl).2]; rfl
        have hy2 : ∀ x ∈ ys, x.l.length ≤ 100000 ∧ ∀ t ∈ x.l, t.text.length ≤ 9223372036854775807 := fun y hy => by
          rw [hys] at hy
          obtain ⟨l, hl, rfl⟩ := List.mem_map.1 hy
          have h2 := hrl2 l hl
          exact ⟨show l.length ≤ 100000 by omega, fun t ht => by have := text_le (List.all_eq_true.1 h2.2 t ht); omega⟩
        have hld := hv.lend (n := n) hrl.symm
        rw [← hys] at hld
        simp (disch := omega) only [go_sem, Nat.reduceEqDiff, Nat.reduceAdd, Nat.reduceMul, Nat.reduceSub, Nat.reduceLeDiff, ↓reduceIte, reduceCtorEq, Int.reduceAdd, Int.reduceSub, Int.reduceMul, Int.reduceNeg, Int.reduceToNat, List.reduceReplicate, String.reduceEq, e3, e4, e6, e7, e51, e52, e53]
        refine ((lexLines_spec hG h0 ys (by omega) hy2).lent (args := [.oslice 2 R 0 n n]) hld rfl).mono ?_
        rintro _ H2 ⟨rfl, rfl⟩
        cases hany : ys.any longLin with
        | true =>
          rw [linesD_any hyok hany]
          simp (disch := omega) only [go_sem, Nat.reduceEqDiff, Nat.reduceAdd, Nat.reduceMul, Nat.reduceSub, Nat.reduceLeDiff, ↓reduceIte, reduceCtorEq, Int.reduceAdd, Int.reduceSub, Int.reduceMul, Int.reduceNeg, Int.reduceToNat, List.reduceReplicate, String.reduceEq, e3, e4]
          refine (awake_spec hG _).mono ?_
          rintro _ H3 ⟨rfl, rfl⟩
          simp (disch := omega) only [go_sem, Nat.reduceEqDiff, Nat.reduceAdd, Nat.reduceMul, Nat.reduceSub, Nat.reduceLeDiff, ↓reduceIte, reduceCtorEq, Int.reduceAdd, Int.reduceSub, Int.reduceMul, Int.reduceNeg, Int.reduceToNat, List.reduceReplicate, String.reduceEq]
          exact DFin.sub hv.sub (DFin.refl ⟨rfl, rfl⟩)
        | false =>
          by_cases hbig : 65536 < (linesT ys).length
          · rw [linesD_big hyok hbig]
            simp (disch := omega) only [go_sem, Nat.reduceEqDiff, Nat.reduceAdd, Nat.reduceMul, Nat.reduceSub, Nat.reduceLeDiff, ↓reduceIte, reduceCtorEq, Int.reduceAdd, Int.reduceSub, Int.reduceMul, Int.reduceNeg, Int.reduceToNat, List.reduceReplicate, String.reduceEq, e3, e4]
            refine (awake_spec hG _).mono ?_
            rintro _ H3 ⟨rfl, rfl⟩
            simp (disch := omega) only [go_sem, Nat.reduceEqDiff, Nat.reduceAdd, Nat.reduceMul, Nat.reduceSub, Nat.reduceLeDiff, ↓reduceIte, reduceCtorEq, Int.reduceAdd, Int.reduceSub, Int.reduceMul, Int.reduceNeg, Int.reduceToNat, List.reduceReplicate, String.reduceEq]
            exact DFin.sub hv.sub (DFin.refl ⟨rfl, rfl⟩)
          · rw [linesD_ok hyok hany hbig]
            have hys3 : (ys.map fun x => x.l.length).sum ≤ 8192 := by
              have : (ys.map fun x => x.l.length) = rows.map (·.length) := by rw [← hym, List.map_map]; rfl
              rw [this, hsum]; omega
            obtain ⟨hlaw, _⟩ := lines_law hyok hany (by omega) hys3
            simp (disch := omega) only [go_sem, Nat.reduceEqDiff, Nat.reduceAdd, Nat.reduceMul, Nat.reduceSub, Nat.reduceLeDiff, ↓reduceIte, reduceCtorEq, Int.reduceAdd, Int.reduceSub, Int.reduceMul, Int.reduceNeg, Int.reduceToNat, List.reduceReplicate, String.reduceEq, e3, e4]
            refine (lexTokens_spec hG _ (linesT ys) (by omega)).mono ?_
            rintro _ H3 ⟨rfl, rfl⟩
            rw [hlaw, hym, hfin]
            simp (disch := omega) only [go_sem, Nat.reduceEqDiff, Nat.reduceAdd, Nat.reduceMul, Nat.reduceSub, Nat.reduceLeDiff, ↓reduceIte, reduceCtorEq, Int.reduceAdd, Int.reduceSub, Int.reduceMul, Int.reduceNeg, Int.reduceToNat, List.reduceReplicate, String.reduceEq, e3, e4]
            refine (eqL_spec G H3 L L (by omega)).mono ?_
            rintro _ H4 ⟨rfl, rfl⟩
            rw [decide_eq_true rfl]
            simp (disch := omega) only [go_sem, Nat.reduceEqDiff, Nat.reduceAdd, Nat.reduceMul, Nat.reduceSub, Nat.reduceLeDiff, ↓reduceIte, reduceCtorEq, Int.reduceAdd, Int.reduceSub, Int.reduceMul, Int.reduceNeg, Int.reduceToNat, List.reduceReplicate, String.reduceEq, e3, e4]
            refine (awake_spec hG _).mono ?_
            rintro _ H4 ⟨rfl, rfl⟩
            simp (disch := omega) only [go_sem, Nat.reduceEqDiff, Nat.reduceAdd, Nat.reduceMul, Nat.reduceSub, Nat.reduceLeDiff, ↓reduceIte, reduceCtorEq, Int.reduceAdd, Int.reduceSub, Int.reduceMul, Int.reduceNeg, Int.reduceToNat, List.reduceReplicate, String.reduceEq]
            exact DFin.sub hv.sub (DFin.refl ⟨rfl, rfl⟩)
  · obtain ⟨l, hl, hl1, hl2⟩ := tokens_errAt (by omega) he
    rw [hl]
    obtain ⟨n, hn⟩ : ∃ n, n = src.count 10 + 1 := ⟨_, rfl⟩
    rw [← hn] at hw1 hl2
    simp (disch := omega) only [go_sem, Nat.reduceEqDiff, Nat.reduceAdd, Nat.reduceMul, Nat.reduceSub, Nat.reduceLeDiff, ↓reduceIte, reduceCtorEq, Int.reduceAdd, Int.reduceSub, Int.reduceMul, Int.reduceNeg, Int.reduceToNat, List.reduceReplicate, String.reduceEq, dToks]
    refine (count_spec (G := G) (H := H1) src 10).mono ?_
    rintro _ H1 ⟨rfl, rfl⟩
    simp (disch := omega) only [go_sem, Nat.reduceEqDiff, Nat.reduceAdd, Nat.reduceMul, Nat.reduceSub, Nat.reduceLeDiff, ↓reduceIte, reduceCtorEq, Int.reduceAdd, Int.reduceSub, Int.reduceMul, Int.reduceNeg, Int.reduceToNat, List.reduceReplicate, String.reduceEq, hw1, hl1, hl2, List.length_nil]
    refine (awake_spec hG _).mono ?_
    rintro _ H1 ⟨rfl, rfl⟩
    simp (disch := omega) only [go_sem, Nat.reduceEqDiff, Nat.reduceAdd, Nat.reduceMul, Nat.reduceSub, Nat.reduceLeDiff, ↓reduceIte, reduceCtorEq, Int.reduceAdd, Int.reduceSub, Int.reduceMul, Int.reduceNeg, Int.reduceToNat, List.reduceReplicate, String.reduceEq]
    exact DFin.refl ⟨rfl, rfl⟩
end
end Go.Dl
