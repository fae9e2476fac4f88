/- The data level and the contracts of the functions that are reached (part 7). -/
import Derived.Shelf.Strings.Builder1
import Derived.Test.YtojpnjngdiimhaaGreatDoorXf
set_option linter.unusedSimpArgs false
set_option linter.unusedVariables false
-- Chapter 2: plain, Symbol, May, the first token of a string.
namespace Go.Dl
open Go Go.Proofs
set_option maxRecDepth 100000

def dTok (t : Tok) : List DVal := [.int .u8 t.kind, dI t.line, .str t.text, dI t.n]
theorem dTok_len (t : Tok) : (dTok t).length = 4 := rfl
theorem dTok_t4 (t : Tok) : (dTok t).take 4 = dTok t := rfl
theorem dTok_d4 (t : Tok) : (dTok t).drop 4 = [] := rfl
theorem dTok_one (t : Tok) : (dTok t).all (fun d => d.one) = true := rfl
theorem dTok_0 (t : Tok) : (dTok t)[0]? = some (.int .u8 t.kind) := rfl
theorem dTok_1 (t : Tok) : (dTok t)[1]? = some (dI t.line) := rfl
theorem dTok_2 (t : Tok) : (dTok t)[2]? = some (.str t.text) := rfl
theorem dTok_3 (t : Tok) : (dTok t)[3]? = some (dI t.n) := rfl
section
variable {G : Nat → DVal} {H : DHeap}
theorem plain_spec (G : Nat → DVal) (H : DHeap) (s : List UInt8) (hs : s.length ≤ 9223372036854775807) : DCalls Tryz.prog G 86 [.str s] H (DRet (.bool (plainB s)) H) := by
  refine dcalls_intro Tryz.func86 Tryz.call86 rfl (by kernel_rfl) ?_
  simp (disch := omega) only [go_sem, Nat.reduceEqDiff, Nat.reduceAdd, Nat.reduceMul, Nat.reduceSub, Nat.reduceLeDiff, ↓reduceIte, reduceCtorEq, Int.reduceAdd, Int.reduceSub, Int.reduceMul, Int.reduceNeg, Int.reduceToNat, List.reduceReplicate, String.reduceEq]
  obtain ⟨I, hI⟩ : ∃ I : Nat → (Nat → DVal) → DHeap → Prop, ∀ k env heap, I k env heap ↔ (env 0 = .str s ∧ env 5 = dI s.length ∧ env 6 = dI k ∧ k ≤ s.length ∧ plainB (s.take k) = true ∧ heap = H) := ⟨_, fun _ _ _ => Iff.rfl⟩
  refine DLoop.run I (fun k => s.length - k) 0 ((hI _ _ _).2 ?_) ?_
  · simp (disch := omega) only [go_sem, Nat.reduceEqDiff, Nat.reduceAdd, Nat.reduceMul, Nat.reduceSub, Nat.reduceLeDiff, ↓reduceIte, reduceCtorEq, Int.reduceAdd, Int.reduceSub, Int.reduceMul, Int.reduceNeg, Int.reduceToNat, List.reduceReplicate, String.reduceEq]
    (repeat' apply And.intro) <;> (try first | rfl | assumption | omega)
  · intro k env heap hi
    obtain ⟨e0, e5, e6, hk, hp, rfl⟩ := (hI _ _ _).1 hi
    by_cases hlt : k < s.length
    · have hlt' : (k : Int) < (s.length : Int) := by omega
      have hg : s[k]? = some s[k] := List.getElem?_eq_getElem hlt
      have hbad : ¬ (32 ≤ s[k].toNat ∧ s[k].toNat ≤ 126) → plainB s = false := fun h => by
        rw [plainB, List.all_eq_false]
        refine ⟨s[k], List.getElem_mem hlt, ?_⟩
        simp only [Bool.and_eq_true, decide_eq_true_eq]; exact h
      by_cases h1 : s[k].toNat < 32
      · have h1' : (s[k].toNat : Int) < 32 := by omega
        simp (disch := omega) only [go_sem, Nat.reduceEqDiff, Nat.reduceAdd, Nat.reduceMul, Nat.reduceSub, Nat.reduceLeDiff, ↓reduceIte, reduceCtorEq, Int.reduceAdd, Int.reduceSub, Int.reduceMul, Int.reduceNeg, Int.reduceToNat, List.reduceReplicate, String.reduceEq, e0, e5, e6, hlt', hg, h1', Int.toNat_natCast]
        exact DFin.refl ⟨by rw [hbad (by omega)], rfl⟩
      · have h1' : ¬ (s[k].toNat : Int) < 32 := by omega
        by_cases h2 : 126 < s[k].toNat
        · have h2' : (126 : Int) < (s[k].toNat : Int) := by omega
          simp (disch := omega) only [go_sem, Nat.reduceEqDiff, Nat.reduceAdd, Nat.reduceMul, Nat.reduceSub, Nat.reduceLeDiff, ↓reduceIte, reduceCtorEq, Int.reduceAdd, Int.reduceSub, Int.reduceMul, Int.reduceNeg, Int.reduceToNat, List.reduceReplicate, String.reduceEq, e0, e5, e6, hlt', hg, h1', h2', Int.toNat_natCast]
          exact DFin.refl ⟨by rw [hbad (by omega)], rfl⟩
        · have h2' : ¬ (126 : Int) < (s[k].toNat : Int) := by omega
          simp (disch := omega) only [go_sem, Nat.reduceEqDiff, Nat.reduceAdd, Nat.reduceMul, Nat.reduceSub, Nat.reduceLeDiff, ↓reduceIte, reduceCtorEq, Int.reduceAdd, Int.reduceSub, Int.reduceMul, Int.reduceNeg, Int.reduceToNat, List.reduceReplicate, String.reduceEq, e0, e5, e6, hlt', hg, h1', h2', Int.toNat_natCast]
          refine ⟨k + 1, _, GhostS.refl _, (hI _ _ _).2 ?_, by omega⟩
          simp (disch := omega) only [go_sem, Nat.reduceEqDiff, Nat.reduceAdd, Nat.reduceMul, Nat.reduceSub, Nat.reduceLeDiff, ↓reduceIte, reduceCtorEq, Int.reduceAdd, Int.reduceSub, Int.reduceMul, Int.reduceNeg, Int.reduceToNat, List.reduceReplicate, String.reduceEq, e0, e5, e6]
          (repeat' apply And.intro) <;> (try first | rfl | assumption | omega)
          rw [List.take_add_one, hg, plain_app, hp]
          simp [plainB]; omega
    · have : k = s.length := by omega
      subst this
      simp (disch := omega) only [go_sem, Nat.reduceEqDiff, Nat.reduceAdd, Nat.reduceMul, Nat.reduceSub, Nat.reduceLeDiff, ↓reduceIte, reduceCtorEq, Int.reduceAdd, Int.reduceSub, Int.reduceMul, Int.reduceNeg, Int.reduceToNat, List.reduceReplicate, String.reduceEq, e0, e5, e6]
      rw [List.take_length] at hp
      exact DFin.refl ⟨by rw [hp], rfl⟩
theorem sym_no32 {s : List UInt8} (h : symB s = true) : (32 : UInt8) ∉ s := by
  rcases sym_facts h with ⟨a, rfl, ha⟩ | ⟨a, b, rfl, hab⟩
  · have := (syms1_all a ha).2.2.2
    simp [Ne.symm this]
  · have h1 := (syms2_all _ hab).2.2.2.1
    have h2 := (syms2_all _ hab).2.2.2.2.2
    simp only [List.mem_cons, List.not_mem_nil, or_false, not_or]
    refine ⟨Ne.symm h1, fun e => ?_⟩
    rw [← e] at h2; simp at h2
theorem symbolS_spec (hG : GX G) (H : DHeap) (s : List UInt8) (hs : s.length ≤ 9223372036854775807) : DCalls Tryz.prog G 17 [.str s] H (DRet (.bool (symB s)) H) := by
  refine dcalls_intro Tryz.func17 Tryz.call17 rfl (by kernel_rfl) ?_
  by_cases hne : s = []
  · subst hne
    simp (disch := omega) only [go_sem, Nat.reduceEqDiff, Nat.reduceAdd, Nat.reduceMul, Nat.reduceSub, Nat.reduceLeDiff, ↓reduceIte, reduceCtorEq, Int.reduceAdd, Int.reduceSub, Int.reduceMul, Int.reduceNeg, Int.reduceToNat, List.reduceReplicate, String.reduceEq]
    exact DFin.refl ⟨rfl, rfl⟩
  · simp (disch := omega) only [go_sem, Nat.reduceEqDiff, Nat.reduceAdd, Nat.reduceMul, Nat.reduceSub, Nat.reduceLeDiff, ↓reduceIte, reduceCtorEq, Int.reduceAdd, Int.reduceSub, Int.reduceMul, Int.reduceNeg, Int.reduceToNat, List.reduceReplicate, String.reduceEq, hne]
    refine (contains1_spec s 32).mono ?_
    rintro _ H1 ⟨rfl, rfl⟩
    by_cases h32 : (32 : UInt8) ∈ s
    · simp (disch := omega) only [go_sem, Nat.reduceEqDiff, Nat.reduceAdd, Nat.reduceMul, Nat.reduceSub, Nat.reduceLeDiff, ↓reduceIte, reduceCtorEq, Int.reduceAdd, Int.reduceSub, Int.reduceMul, Int.reduceNeg, Int.reduceToNat, List.reduceReplicate, String.reduceEq, hne, h32]
      refine DFin.refl ⟨?_, rfl⟩
      cases hb : symB s with
      | false => rfl
      | true => exact absurd h32 (sym_no32 hb)
    · simp (disch := omega) only [go_sem, Nat.reduceEqDiff, Nat.reduceAdd, Nat.reduceMul, Nat.reduceSub, Nat.reduceLeDiff, ↓reduceIte, reduceCtorEq, Int.reduceAdd, Int.reduceSub, Int.reduceMul, Int.reduceNeg, Int.reduceToNat, List.reduceReplicate, String.reduceEq, hne, h32]
      refine (symbol_spec hG _ s hs).mono ?_
      rintro _ H1 ⟨rfl, rfl⟩
      simp (disch := omega) only [go_sem, Nat.reduceEqDiff, Nat.reduceAdd, Nat.reduceMul, Nat.reduceSub, Nat.reduceLeDiff, ↓reduceIte, reduceCtorEq, Int.reduceAdd, Int.reduceSub, Int.reduceMul, Int.reduceNeg, Int.reduceToNat, List.reduceReplicate, String.reduceEq, hne, h32]
      refine DFin.refl ⟨?_, rfl⟩
      rw [symB, decide_eq_true hne, Bool.true_and, decide_eq_decide.2 (show (symN s : Int) = (s.length : Int) ↔ symN s = s.length by omega)]
theorem may_spec (hG : GX G) (H : DHeap) (t : Tok) (ht : t.text.length ≤ 9223372036854775807) : DCalls Tryz.prog G 20 [.agg (dTok t)] H (DRet (.bool (mayT t)) H) := by
  refine dcalls_intro Tryz.func20 Tryz.call20 rfl (by kernel_rfl) ?_
  simp (disch := omega) only [go_sem, Nat.reduceEqDiff, Nat.reduceAdd, Nat.reduceMul, Nat.reduceSub, Nat.reduceLeDiff, ↓reduceIte, reduceCtorEq, Int.reduceAdd, Int.reduceSub, Int.reduceMul, Int.reduceNeg, Int.reduceToNat, List.reduceReplicate, String.reduceEq, DVal.cells]
  intro r hr; dsimp only at hr
  by_cases k1 : t.kind = 1
  · by_cases n0 : t.n = 0
    · simp (disch := omega) only [go_sem, Nat.reduceEqDiff, Nat.reduceAdd, Nat.reduceMul, Nat.reduceSub, Nat.reduceLeDiff, ↓reduceIte, reduceCtorEq, Int.reduceAdd, Int.reduceSub, Int.reduceMul, Int.reduceNeg, Int.reduceToNat, List.reduceReplicate, String.reduceEq, dTok_len, dTok_0, dTok_1, dTok_2, dTok_3, k1, n0]
      refine (name_spec2 hG _ t.text (by omega)).mono ?_
      rintro _ H1 ⟨rfl, rfl⟩
      simp (disch := omega) only [go_sem, Nat.reduceEqDiff, Nat.reduceAdd, Nat.reduceMul, Nat.reduceSub, Nat.reduceLeDiff, ↓reduceIte, reduceCtorEq, Int.reduceAdd, Int.reduceSub, Int.reduceMul, Int.reduceNeg, Int.reduceToNat, List.reduceReplicate, String.reduceEq]
      refine DFin.dropA r hr (DFin.refl ⟨?_, rfl⟩)
      simp [mayT, k1, n0]
    · simp (disch := omega) only [go_sem, Nat.reduceEqDiff, Nat.reduceAdd, Nat.reduceMul, Nat.reduceSub, Nat.reduceLeDiff, ↓reduceIte, reduceCtorEq, Int.reduceAdd, Int.reduceSub, Int.reduceMul, Int.reduceNeg, Int.reduceToNat, List.reduceReplicate, String.reduceEq, dTok_len, dTok_0, dTok_1, dTok_2, dTok_3, k1, n0]
      refine DFin.dropA r hr (DFin.refl ⟨?_, rfl⟩)
      simp [mayT, k1, n0]
  by_cases k2 : t.kind = 2
  · by_cases n0 : t.n = 0
    · simp (disch := omega) only [go_sem, Nat.reduceEqDiff, Nat.reduceAdd, Nat.reduceMul, Nat.reduceSub, Nat.reduceLeDiff, ↓reduceIte, reduceCtorEq, Int.reduceAdd, Int.reduceSub, Int.reduceMul, Int.reduceNeg, Int.reduceToNat, List.reduceReplicate, String.reduceEq, dTok_len, dTok_0, dTok_1, dTok_2, dTok_3, k1, k2, n0]
      refine (key_spec hG _ t.text).mono ?_
      rintro _ H1 ⟨rfl, rfl⟩
      simp (disch := omega) only [go_sem, Nat.reduceEqDiff, Nat.reduceAdd, Nat.reduceMul, Nat.reduceSub, Nat.reduceLeDiff, ↓reduceIte, reduceCtorEq, Int.reduceAdd, Int.reduceSub, Int.reduceMul, Int.reduceNeg, Int.reduceToNat, List.reduceReplicate, String.reduceEq]
      refine DFin.dropA r hr (DFin.refl ⟨?_, rfl⟩)
      simp [mayT, k2, n0]
    · simp (disch := omega) only [go_sem, Nat.reduceEqDiff, Nat.reduceAdd, Nat.reduceMul, Nat.reduceSub, Nat.reduceLeDiff, ↓reduceIte, reduceCtorEq, Int.reduceAdd, Int.reduceSub, Int.reduceMul, Int.reduceNeg, Int.reduceToNat, List.reduceReplicate, String.reduceEq, dTok_len, dTok_0, dTok_1, dTok_2, dTok_3, k1, k2, n0]
      refine DFin.dropA r hr (DFin.refl ⟨?_, rfl⟩)
      simp [mayT, k2, n0]
  by_cases k4 : t.kind = 4
  · by_cases n0 : t.n = 0
    · simp (disch := omega) only [go_sem, Nat.reduceEqDiff, Nat.reduceAdd, Nat.reduceMul, Nat.reduceSub, Nat.reduceLeDiff, ↓reduceIte, reduceCtorEq, Int.reduceAdd, Int.reduceSub, Int.reduceMul, Int.reduceNeg, Int.reduceToNat, List.reduceReplicate, String.reduceEq, dTok_len, dTok_0, dTok_1, dTok_2, dTok_3, k1, k2, k4, n0]
      refine (symbolS_spec hG _ t.text ht).mono ?_
      rintro _ H1 ⟨rfl, rfl⟩
      simp (disch := omega) only [go_sem, Nat.reduceEqDiff, Nat.reduceAdd, Nat.reduceMul, Nat.reduceSub, Nat.reduceLeDiff, ↓reduceIte, reduceCtorEq, Int.reduceAdd, Int.reduceSub, Int.reduceMul, Int.reduceNeg, Int.reduceToNat, List.reduceReplicate, String.reduceEq]
      refine DFin.dropA r hr (DFin.refl ⟨?_, rfl⟩)
      simp [mayT, k4, n0]
    · simp (disch := omega) only [go_sem, Nat.reduceEqDiff, Nat.reduceAdd, Nat.reduceMul, Nat.reduceSub, Nat.reduceLeDiff, ↓reduceIte, reduceCtorEq, Int.reduceAdd, Int.reduceSub, Int.reduceMul, Int.reduceNeg, Int.reduceToNat, List.reduceReplicate, String.reduceEq, dTok_len, dTok_0, dTok_1, dTok_2, dTok_3, k1, k2, k4, n0]
      refine DFin.dropA r hr (DFin.refl ⟨?_, rfl⟩)
      simp [mayT, k4, n0]
  have hm : mayT t = (decide (t.kind = 3) && decide (t.text = []) && decide (0 ≤ t.n) && decide (t.n ≤ 2147483647)) := by
    rw [mayT, if_neg k1, if_neg k2, if_neg k4]
  rw [hm]
  by_cases k3 : t.kind = 3
  · by_cases t0 : t.text = []
    · by_cases n0 : 0 ≤ t.n
      · simp (disch := omega) only [go_sem, Nat.reduceEqDiff, Nat.reduceAdd, Nat.reduceMul, Nat.reduceSub, Nat.reduceLeDiff, ↓reduceIte, reduceCtorEq, Int.reduceAdd, Int.reduceSub, Int.reduceMul, Int.reduceNeg, Int.reduceToNat, List.reduceReplicate, String.reduceEq, dTok_len, dTok_0, dTok_1, dTok_2, dTok_3, k1, k2, k4, k3, t0, n0]
        exact DFin.dropA r hr (DFin.refl ⟨by simp, rfl⟩)
      · simp (disch := omega) only [go_sem, Nat.reduceEqDiff, Nat.reduceAdd, Nat.reduceMul, Nat.reduceSub, Nat.reduceLeDiff, ↓reduceIte, reduceCtorEq, Int.reduceAdd, Int.reduceSub, Int.reduceMul, Int.reduceNeg, Int.reduceToNat, List.reduceReplicate, String.reduceEq, dTok_len, dTok_0, dTok_1, dTok_2, dTok_3, k1, k2, k4, k3, t0, n0]
        exact DFin.dropA r hr (DFin.refl ⟨by simp, rfl⟩)
    · simp (disch := omega) only [go_sem, Nat.reduceEqDiff, Nat.reduceAdd, Nat.reduceMul, Nat.reduceSub, Nat.reduceLeDiff, ↓reduceIte, reduceCtorEq, Int.reduceAdd, Int.reduceSub, Int.reduceMul, Int.reduceNeg, Int.reduceToNat, List.reduceReplicate, String.reduceEq, dTok_len, dTok_0, dTok_1, dTok_2, dTok_3, k1, k2, k4, k3, t0]
      exact DFin.dropA r hr (DFin.refl ⟨by simp, rfl⟩)
  · simp (disch := omega) only [go_sem, Nat.reduceEqDiff, Nat.reduceAdd, Nat.reduceMul, Nat.reduceSub, Nat.reduceLeDiff, ↓reduceIte, reduceCtorEq, Int.reduceAdd, Int.reduceSub, Int.reduceMul, Int.reduceNeg, Int.reduceToNat, List.reduceReplicate, String.reduceEq, dTok_len, dTok_0, dTok_1, dTok_2, dTok_3, k1, k2, k4, k3]
    exact DFin.dropA r hr (DFin.refl ⟨by simp, rfl⟩)
theorem par_cases (w : List UInt8) : Lib.parseUintB 32 w = .syntax ∨ Lib.parseUintB 32 w = .range ∨ ∃ u, Lib.parseUintB 32 w = .ok u := by
  rcases h : Lib.parseUintB 32 w with u | _ | _
  · exact .inr (.inr ⟨u, rfl⟩)
  · exact .inl rfl
  · exact .inr (.inl rfl)
theorem first_cons (c : UInt8) (r : List UInt8) : firstT (c :: r) = if letterB c then (if keyB (wordL (c :: r)) then (⟨2, 0, wordL (c :: r), 0⟩, (wordL (c :: r)).length) else if nameB (wordL (c :: r)) then (⟨1, 0, wordL (c :: r), 0⟩, (wordL (c :: r)).length) else (tok0, 0))
    else if digitB c then (match intV (wordL (c :: r)) with | some v => (⟨3, 0, [], v⟩, (wordL (c :: r)).length) | none => (tok0, 0)) else (⟨4, 0, (c :: r).take (symN (c :: r)), 0⟩, symN (c :: r)) := rfl
theorem word_ne {c : UInt8} {r : List UInt8} (h : wordB c = true) : wordL (c :: r) ≠ [] := by
  unfold wordL
  rw [List.takeWhile_cons, h]; simp
def dFirst (p : Tok × Nat) : DVal := .tuple [.agg (dTok p.1), dI p.2]
set_option maxHeartbeats 2000000 in
theorem first_spec (hG : GX G) (H : DHeap) (c : UInt8) (r : List UInt8) (hs : (c :: r).length ≤ 1000000000) : DCalls Tryz.prog G 85 [.str (c :: r)] H (DRet (dFirst (firstT (c :: r))) H) := by
  have hz : [DVal.int IntKind.u8 0, dI 0, .str [], dI 0] = dTok tok0 := rfl
  have h0 : (c :: r)[0]? = some c := rfl
  have hwl := word_le (c :: r)
  refine dcalls_intro Tryz.func85 Tryz.call85 rfl (by kernel_rfl) ?_
  simp (disch := omega) only [go_sem, Nat.reduceEqDiff, Nat.reduceAdd, Nat.reduceMul, Nat.reduceSub, Nat.reduceLeDiff, ↓reduceIte, reduceCtorEq, Int.reduceAdd, Int.reduceSub, Int.reduceMul, Int.reduceNeg, Int.reduceToNat, List.reduceReplicate, String.reduceEq]
  intro r2 hr2; dsimp only at hr2
  simp (disch := omega) only [go_sem, Nat.reduceEqDiff, Nat.reduceAdd, Nat.reduceMul, Nat.reduceSub, Nat.reduceLeDiff, ↓reduceIte, reduceCtorEq, Int.reduceAdd, Int.reduceSub, Int.reduceMul, Int.reduceNeg, Int.reduceToNat, List.reduceReplicate, String.reduceEq]
  refine (word_spec G _ (c :: r) hs).mono ?_
  rintro _ H1 ⟨rfl, rfl⟩
  simp (disch := omega) only [go_sem, Nat.reduceEqDiff, Nat.reduceAdd, Nat.reduceMul, Nat.reduceSub, Nat.reduceLeDiff, ↓reduceIte, reduceCtorEq, Int.reduceAdd, Int.reduceSub, Int.reduceMul, Int.reduceNeg, Int.reduceToNat, List.reduceReplicate, String.reduceEq, h0]
  refine (letter_spec G _ c).mono ?_
  rintro _ H1 ⟨rfl, rfl⟩
  generalize hw : wordL (c :: r) = w at hwl
  cases hle : letterB c with
  | true =>
    simp (disch := omega) only [go_sem, Nat.reduceEqDiff, Nat.reduceAdd, Nat.reduceMul, Nat.reduceSub, Nat.reduceLeDiff, ↓reduceIte, reduceCtorEq, Int.reduceAdd, Int.reduceSub, Int.reduceMul, Int.reduceNeg, Int.reduceToNat, List.reduceReplicate, String.reduceEq, h0]
    refine (key_spec hG _ w).mono ?_
    rintro _ H1 ⟨rfl, rfl⟩
    cases hk : keyB w with
    | true =>
      simp (disch := omega) only [go_sem, Nat.reduceEqDiff, Nat.reduceAdd, Nat.reduceMul, Nat.reduceSub, Nat.reduceLeDiff, ↓reduceIte, reduceCtorEq, Int.reduceAdd, Int.reduceSub, Int.reduceMul, Int.reduceNeg, Int.reduceToNat, List.reduceReplicate, String.reduceEq, h0, DVal.cells]
      exact DFin.dropA r2 hr2 (DFin.refl ⟨by rw [first_cons, hw, hle, if_pos rfl, hk, if_pos rfl]; rfl, rfl⟩)
    | false =>
      simp (disch := omega) only [go_sem, Nat.reduceEqDiff, Nat.reduceAdd, Nat.reduceMul, Nat.reduceSub, Nat.reduceLeDiff, ↓reduceIte, reduceCtorEq, Int.reduceAdd, Int.reduceSub, Int.reduceMul, Int.reduceNeg, Int.reduceToNat, List.reduceReplicate, String.reduceEq, h0]
      refine (letter_spec G _ c).mono ?_
      rintro _ H1 ⟨rfl, rfl⟩
      rw [hle]
      simp (disch := omega) only [go_sem, Nat.reduceEqDiff, Nat.reduceAdd, Nat.reduceMul, Nat.reduceSub, Nat.reduceLeDiff, ↓reduceIte, reduceCtorEq, Int.reduceAdd, Int.reduceSub, Int.reduceMul, Int.reduceNeg, Int.reduceToNat, List.reduceReplicate, String.reduceEq, h0]
      refine (name_spec2 hG _ w (by omega)).mono ?_
      rintro _ H1 ⟨rfl, rfl⟩
      cases hn : nameB w with
      | true =>
        simp (disch := omega) only [go_sem, Nat.reduceEqDiff, Nat.reduceAdd, Nat.reduceMul, Nat.reduceSub, Nat.reduceLeDiff, ↓reduceIte, reduceCtorEq, Int.reduceAdd, Int.reduceSub, Int.reduceMul, Int.reduceNeg, Int.reduceToNat, List.reduceReplicate, String.reduceEq, h0, DVal.cells]
        exact DFin.dropA r2 hr2 (DFin.refl ⟨by rw [first_cons, hw, hle, if_pos rfl, hk, if_neg (by simp), hn, if_pos rfl]; rfl, rfl⟩)
      | false =>
        simp (disch := omega) only [go_sem, Nat.reduceEqDiff, Nat.reduceAdd, Nat.reduceMul, Nat.reduceSub, Nat.reduceLeDiff, ↓reduceIte, reduceCtorEq, Int.reduceAdd, Int.reduceSub, Int.reduceMul, Int.reduceNeg, Int.reduceToNat, List.reduceReplicate, String.reduceEq, h0]
        refine (letter_spec G _ c).mono ?_
        rintro _ H1 ⟨rfl, rfl⟩
        rw [hle]
        simp (disch := omega) only [go_sem, Nat.reduceEqDiff, Nat.reduceAdd, Nat.reduceMul, Nat.reduceSub, Nat.reduceLeDiff, ↓reduceIte, reduceCtorEq, Int.reduceAdd, Int.reduceSub, Int.reduceMul, Int.reduceNeg, Int.reduceToNat, List.reduceReplicate, String.reduceEq, h0, DVal.cells]
        exact DFin.dropA r2 hr2 (DFin.refl ⟨by rw [first_cons, hw, hle, if_pos rfl, hk, if_neg (by simp), hn, if_neg (by simp)]; rfl, rfl⟩)
  | false =>
    simp (disch := omega) only [go_sem, Nat.reduceEqDiff, Nat.reduceAdd, Nat.reduceMul, Nat.reduceSub, Nat.reduceLeDiff, ↓reduceIte, reduceCtorEq, Int.reduceAdd, Int.reduceSub, Int.reduceMul, Int.reduceNeg, Int.reduceToNat, List.reduceReplicate, String.reduceEq, h0]
    refine (letter_spec G _ c).mono ?_
    rintro _ H1 ⟨rfl, rfl⟩
    rw [hle]
    simp (disch := omega) only [go_sem, Nat.reduceEqDiff, Nat.reduceAdd, Nat.reduceMul, Nat.reduceSub, Nat.reduceLeDiff, ↓reduceIte, reduceCtorEq, Int.reduceAdd, Int.reduceSub, Int.reduceMul, Int.reduceNeg, Int.reduceToNat, List.reduceReplicate, String.reduceEq, h0]
    refine (letter_spec G _ c).mono ?_
    rintro _ H1 ⟨rfl, rfl⟩
    rw [hle]
    simp (disch := omega) only [go_sem, Nat.reduceEqDiff, Nat.reduceAdd, Nat.reduceMul, Nat.reduceSub, Nat.reduceLeDiff, ↓reduceIte, reduceCtorEq, Int.reduceAdd, Int.reduceSub, Int.reduceMul, Int.reduceNeg, Int.reduceToNat, List.reduceReplicate, String.reduceEq, h0]
    refine (digit_spec G _ c).mono ?_
    rintro _ H1 ⟨rfl, rfl⟩
    cases hd : digitB c with
    | true =>
      have hne : w ≠ [] := by rw [← hw]; exact word_ne (digit_word hd)
      have hfc : firstT (c :: r) = match intV w with | some v => (⟨3, 0, [], v⟩, w.length) | none => (tok0, 0) := by
        rw [first_cons, hw, hle, if_neg (by simp), hd, if_pos rfl]
      simp (disch := omega) only [go_sem, Nat.reduceEqDiff, Nat.reduceAdd, Nat.reduceMul, Nat.reduceSub, Nat.reduceLeDiff, ↓reduceIte, reduceCtorEq, Int.reduceAdd, Int.reduceSub, Int.reduceMul, Int.reduceNeg, Int.reduceToNat, List.reduceReplicate, String.reduceEq]
      refine (parseUint_spec hG.gt w (by omega) (par_cases w)).mono ?_
      rintro _ H2 ⟨⟨v, er, rfl, hp1, hp2⟩, rfl⟩
      rcases h : Lib.parseUintB 32 w with u | _ | _
      · obtain ⟨rfl, rfl⟩ := hp1 u h
        have hiv := intV_some h
        by_cases hl : w.length ≤ 10
        · have hl' : ¬ (10 : Int) < (w.length : Int) := by omega
          by_cases hu : u ≤ 2147483647
          · have hu' : ¬ (2147483647 : Int) < (u : Int) := by omega
            have hwr : IntKind.i64.wrap (u : Int) = (u : Int) := by rw [IntKind.wrap_i64]; omega
            rw [if_pos ⟨hl, hu⟩] at hiv
            simp (disch := omega) only [go_sem, Nat.reduceEqDiff, Nat.reduceAdd, Nat.reduceMul, Nat.reduceSub, Nat.reduceLeDiff, ↓reduceIte, reduceCtorEq, Int.reduceAdd, Int.reduceSub, Int.reduceMul, Int.reduceNeg, Int.reduceToNat, List.reduceReplicate, String.reduceEq, hl', hu', hwr, DVal.cells]
            exact DFin.dropA r2 hr2 (DFin.refl ⟨by rw [hfc, hiv]; rfl, rfl⟩)
          · have hu' : (2147483647 : Int) < (u : Int) := by omega
            rw [if_neg (fun h => hu h.2)] at hiv
            simp (disch := omega) only [go_sem, Nat.reduceEqDiff, Nat.reduceAdd, Nat.reduceMul, Nat.reduceSub, Nat.reduceLeDiff, ↓reduceIte, reduceCtorEq, Int.reduceAdd, Int.reduceSub, Int.reduceMul, Int.reduceNeg, Int.reduceToNat, List.reduceReplicate, String.reduceEq, hl', hu', DVal.cells]
            exact DFin.dropA r2 hr2 (DFin.refl ⟨by rw [hfc, hiv]; rfl, rfl⟩)
        · have hl' : (10 : Int) < (w.length : Int) := by omega
          rw [if_neg (fun h => hl h.1)] at hiv
          simp (disch := omega) only [go_sem, Nat.reduceEqDiff, Nat.reduceAdd, Nat.reduceMul, Nat.reduceSub, Nat.reduceLeDiff, ↓reduceIte, reduceCtorEq, Int.reduceAdd, Int.reduceSub, Int.reduceMul, Int.reduceNeg, Int.reduceToNat, List.reduceReplicate, String.reduceEq, hl', DVal.cells]
          exact DFin.dropA r2 hr2 (DFin.refl ⟨by rw [hfc, hiv]; rfl, rfl⟩)
      · obtain ⟨t, x, rfl⟩ := hp2 (fun u e => by rw [h] at e; cases e)
        have hiv := intV_none hne (fun u e => by rw [h] at e; cases e)
        simp (disch := omega) only [go_sem, Nat.reduceEqDiff, Nat.reduceAdd, Nat.reduceMul, Nat.reduceSub, Nat.reduceLeDiff, ↓reduceIte, reduceCtorEq, Int.reduceAdd, Int.reduceSub, Int.reduceMul, Int.reduceNeg, Int.reduceToNat, List.reduceReplicate, String.reduceEq, DVal.cells]
        exact DFin.dropA r2 hr2 (DFin.refl ⟨by rw [hfc, hiv]; rfl, rfl⟩)
      · obtain ⟨t, x, rfl⟩ := hp2 (fun u e => by rw [h] at e; cases e)
        have hiv := intV_none hne (fun u e => by rw [h] at e; cases e)
        simp (disch := omega) only [go_sem, Nat.reduceEqDiff, Nat.reduceAdd, Nat.reduceMul, Nat.reduceSub, Nat.reduceLeDiff, ↓reduceIte, reduceCtorEq, Int.reduceAdd, Int.reduceSub, Int.reduceMul, Int.reduceNeg, Int.reduceToNat, List.reduceReplicate, String.reduceEq, DVal.cells]
        exact DFin.dropA r2 hr2 (DFin.refl ⟨by rw [hfc, hiv]; rfl, rfl⟩)
    | false =>
      have hsl := sym_le (c :: r)
      have hsl' : (symN (c :: r) : Int) ≤ ((c :: r).length : Int) := by omega
      simp (disch := omega) only [go_sem, Nat.reduceEqDiff, Nat.reduceAdd, Nat.reduceMul, Nat.reduceSub, Nat.reduceLeDiff, ↓reduceIte, reduceCtorEq, Int.reduceAdd, Int.reduceSub, Int.reduceMul, Int.reduceNeg, Int.reduceToNat, List.reduceReplicate, String.reduceEq]
      refine (symbol_spec hG _ (c :: r) (by omega)).mono ?_
      rintro _ H1 ⟨rfl, rfl⟩
      simp (disch := omega) only [go_sem, Nat.reduceEqDiff, Nat.reduceAdd, Nat.reduceMul, Nat.reduceSub, Nat.reduceLeDiff, ↓reduceIte, reduceCtorEq, Int.reduceAdd, Int.reduceSub, Int.reduceMul, Int.reduceNeg, Int.reduceToNat, List.reduceReplicate, String.reduceEq, h0, DVal.cells, hsl']
      exact DFin.dropA r2 hr2 (DFin.refl ⟨by rw [first_cons, hle, if_neg (by simp), hd, if_neg (by simp)]; simp [dFirst, dTok], rfl⟩)
end
end Go.Dl

-- Chapter 2: the tokens of a line, as an iterator.
namespace Go.Dl
open Go Go.Proofs
set_option maxRecDepth 100000

theorem drop_cons_iff' {α : Type} {L M : List α} {k : Nat} {x : α} (h : L.drop k = x :: M) : L[k]? = some x ∧ L.drop (k + 1) = M ∧ k + 1 ≤ L.length := by
  have hk : k < L.length := by
    have := congrArg List.length h
    rw [List.length_drop, List.length_cons] at this; omega
  rw [List.drop_eq_getElem_cons hk] at h
  cases h
  exact ⟨List.getElem?_eq_getElem hk, rfl, by omega⟩
theorem drop_nil_len {α : Type} {L : List α} {k : Nat} (h : L.drop k = []) (hk : k ≤ L.length) : k = L.length := by
  have := congrArg List.length h
  rw [List.length_drop, List.length_nil] at this; omega
def lineB (rs : Nat) (s : List UInt8) : DHeap := upd h0 rs (some (.cells [.str s] 9))
def dY (p : Tok × Bool) : List DVal := [.agg (dTok p.1), .bool p.2]
theorem sub_lift {Hi Hi' X : DHeap} (h : Sub Hi Hi') (hd : Disj Hi' X) : Sub (over Hi X) (over Hi' X) ∧ Disj Hi X := by
  refine ⟨fun b o hb => ?_, fun b hb => h.lo (hd b hb)⟩
  cases e : X b with
  | some o2 => rw [over_x e] at hb ⊢; exact hb
  | none => rw [over_hi e] at hb ⊢; exact h b o hb
theorem tokensF_spec (G : Nat → DVal) (H : DHeap) (s : List UInt8) : DCalls Tryz.prog G 62 [.str s] H (fun e H' => ∃ r, e = .ret (.func (.func 83) [] [.optr r 0]) ∧ H r = none ∧ H' = upd H r (some (.cells [.str s] 9))) := by
  refine dcalls_intro Tryz.func62 Tryz.call62 rfl (by kernel_rfl) ?_
  simp (disch := omega) only [go_sem, Nat.reduceEqDiff, Nat.reduceAdd, Nat.reduceMul, Nat.reduceSub, Nat.reduceLeDiff, ↓reduceIte, reduceCtorEq, Int.reduceAdd, Int.reduceSub, Int.reduceMul, Int.reduceNeg, Int.reduceToNat, List.reduceReplicate, String.reduceEq, DVal.cells]
  intro r hr; dsimp only at hr
  simp (disch := omega) only [go_sem, Nat.reduceEqDiff, Nat.reduceAdd, Nat.reduceMul, Nat.reduceSub, Nat.reduceLeDiff, ↓reduceIte, reduceCtorEq, Int.reduceAdd, Int.reduceSub, Int.reduceMul, Int.reduceNeg, Int.reduceToNat, List.reduceReplicate, String.reduceEq]
  exact DFin.refl ⟨r, rfl, hr, rfl⟩
set_option maxHeartbeats 4000000 in
theorem tokens_iter {G : Nat → DVal} (hG : GX G) (s : List UInt8) (hs : s.length ≤ 1000000000) (rs : Nat) : DIter Tryz.prog G 83 [.optr rs 0] (lineB rs s) ((yieldsL s).map dY) := by
  intro l I Ix Hi X d1 d2 d3 hYl hHl hI hY
  have hrs : Hi rs = none := d2 rs (by simp [lineB, upd])
  have hXr : X rs = none := by
    cases e : X rs with
    | none => rfl
    | some o => have := d3 rs (by simp [e]); simp [lineB, upd] at this
  have hlr : l ≠ rs := fun e => by rw [e] at hHl; exact hHl hrs
  have hst : over (over Hi (lineB rs s)) X = over (upd Hi rs (some (.cells [.str s] 9))) X := by
    congr 1
    funext i; simp only [lineB, over, upd, h0]; by_cases e : i = rs <;> simp [e]
  rw [hst]
  refine dcalls_intro Tryz.func83 Tryz.call83 rfl (by kernel_rfl) ?_
  simp (disch := omega) only [go_sem, Nat.reduceEqDiff, Nat.reduceAdd, Nat.reduceMul, Nat.reduceSub, Nat.reduceLeDiff, ↓reduceIte, reduceCtorEq, Int.reduceAdd, Int.reduceSub, Int.reduceMul, Int.reduceNeg, Int.reduceToNat, List.reduceReplicate, String.reduceEq]
  obtain ⟨J, hJ⟩ : ∃ J : Nat × List UInt8 → (Nat → DVal) → DHeap → Prop, ∀ ix env heap, J ix env heap ↔ (env 0 = .func (.yield l) [] [] ∧ env 1 = .optr rs 0 ∧ ix.2.length ≤ 1000000000 ∧ ((yieldsL s).map dY).drop ix.1 = (yieldsL ix.2).map dY ∧ ix.1 ≤ ((yieldsL s).map dY).length ∧ heap rs = some (.cells [.str ix.2] 9) ∧ ∃ X, heap = over (upd Hi rs (some (.cells [.str ix.2] 9))) X ∧ Disj (upd Hi rs (some (.cells [.str ix.2] 9))) X ∧ I ix.1 X) := ⟨_, fun _ _ _ => Iff.rfl⟩
  refine DLoop.run J (fun ix => ix.2.length) (0, s) ((hJ _ _ _).2 ?_) ?_
  · simp (disch := omega) only [go_sem, Nat.reduceEqDiff, Nat.reduceAdd, Nat.reduceMul, Nat.reduceSub, Nat.reduceLeDiff, ↓reduceIte, reduceCtorEq, Int.reduceAdd, Int.reduceSub, Int.reduceMul, Int.reduceNeg, Int.reduceToNat, List.reduceReplicate, String.reduceEq]
    refine ⟨?_, X, rfl, d1.lo hXr _, hI⟩
    rw [over_hi hXr, upd_same]
  · rintro ⟨k, t⟩ env heap hi
    obtain ⟨e0, e1, htl, hL, hk, hrt, X, hh, d1, hI⟩ := (hJ _ _ _).1 hi
    dsimp only at htl hL hk hrt hh d1 hI
    have hXr : X rs = none := d1.x (by simp [upd])
    have hup : ∀ t', upd heap rs (some (.cells [.str t'] 9)) = over (upd Hi rs (some (.cells [.str t'] 9))) X := fun t' => by
      rw [hh, upd_over_lo hXr, upd_idem]
    have dj : ∀ t', Disj (upd Hi rs (some (.cells [.str t'] 9))) X := fun t' => by
      have := d1.lo hXr (some (.cells [.str t'] 9)); rwa [upd_idem] at this
    have hsb : ∀ t', Sub Hi (upd Hi rs (some (.cells [.str t'] 9))) := fun t' => (Sub.refl Hi).up hrs _
    have htt := trimL_len t
    rw [yieldsL_eq t] at hL
    simp (disch := omega) only [go_sem, Nat.reduceEqDiff, Nat.reduceAdd, Nat.reduceMul, Nat.reduceSub, Nat.reduceLeDiff, ↓reduceIte, reduceCtorEq, Int.reduceAdd, Int.reduceSub, Int.reduceMul, Int.reduceNeg, Int.reduceToNat, List.reduceReplicate, String.reduceEq, e0, e1, hrt]
    refine (trimLeft_spec (G := G) t).mono ?_
    rintro _ H1 ⟨rfl, rfl⟩
    simp (disch := omega) only [go_sem, Nat.reduceEqDiff, Nat.reduceAdd, Nat.reduceMul, Nat.reduceSub, Nat.reduceLeDiff, ↓reduceIte, reduceCtorEq, Int.reduceAdd, Int.reduceSub, Int.reduceMul, Int.reduceNeg, Int.reduceToNat, List.reduceReplicate, String.reduceEq, e0, e1, hrt]
    rw [hup (trimL t)]
    have d1' := dj (trimL t)
    generalize trimL t = tt at htt hL d1'
    have hc : over (upd Hi rs (some (.cells [.str tt] 9))) X rs = some (.cells [.str tt] 9) := by rw [over_hi hXr, upd_same]
    obtain ⟨j1, j2⟩ := sub_lift (hsb tt) d1'
    by_cases hbr : tt = [] ∨ isCom tt = true
    · cases hp : plainB tt with
      | true =>
        rw [if_pos hbr, hp, if_pos rfl] at hL
        have hkl := drop_nil_len hL hk
        rw [List.length_map] at hkl
        by_cases h0 : tt = []
        · subst h0
          simp (disch := omega) only [go_sem, Nat.reduceEqDiff, Nat.reduceAdd, Nat.reduceMul, Nat.reduceSub, Nat.reduceLeDiff, ↓reduceIte, reduceCtorEq, Int.reduceAdd, Int.reduceSub, Int.reduceMul, Int.reduceNeg, Int.reduceToNat, List.reduceReplicate, String.reduceEq, e0, e1, hc]
          refine (plain_spec G _ [] (by decide)).mono ?_
          rintro _ H1 ⟨rfl, rfl⟩
          rw [hp]
          simp (disch := omega) only [go_sem, Nat.reduceEqDiff, Nat.reduceAdd, Nat.reduceMul, Nat.reduceSub, Nat.reduceLeDiff, ↓reduceIte, reduceCtorEq, Int.reduceAdd, Int.reduceSub, Int.reduceMul, Int.reduceNeg, Int.reduceToNat, List.reduceReplicate, String.reduceEq, e0, e1, hc]
          exact DFin.sub j1 (DFin.refl ⟨⟨_, rfl⟩, X, .inl ⟨rfl, j2, by rw [← hkl]; exact hI⟩⟩)
        · have hcom := hbr.resolve_left h0
          simp (disch := omega) only [go_sem, Nat.reduceEqDiff, Nat.reduceAdd, Nat.reduceMul, Nat.reduceSub, Nat.reduceLeDiff, ↓reduceIte, reduceCtorEq, Int.reduceAdd, Int.reduceSub, Int.reduceMul, Int.reduceNeg, Int.reduceToNat, List.reduceReplicate, String.reduceEq, e0, e1, hc, h0]
          refine (hasPrefix_spec (G := G) tt [45, 45]).mono ?_
          rintro _ H1 ⟨rfl, rfl⟩
          rw [com_lib, hcom]
          simp (disch := omega) only [go_sem, Nat.reduceEqDiff, Nat.reduceAdd, Nat.reduceMul, Nat.reduceSub, Nat.reduceLeDiff, ↓reduceIte, reduceCtorEq, Int.reduceAdd, Int.reduceSub, Int.reduceMul, Int.reduceNeg, Int.reduceToNat, List.reduceReplicate, String.reduceEq, e0, e1, hc, h0]
          refine (plain_spec G _ tt (by omega)).mono ?_
          rintro _ H1 ⟨rfl, rfl⟩
          rw [hp]
          simp (disch := omega) only [go_sem, Nat.reduceEqDiff, Nat.reduceAdd, Nat.reduceMul, Nat.reduceSub, Nat.reduceLeDiff, ↓reduceIte, reduceCtorEq, Int.reduceAdd, Int.reduceSub, Int.reduceMul, Int.reduceNeg, Int.reduceToNat, List.reduceReplicate, String.reduceEq, e0, e1, hc]
          exact DFin.sub j1 (DFin.refl ⟨⟨_, rfl⟩, X, .inl ⟨rfl, j2, by rw [← hkl]; exact hI⟩⟩)
      | false =>
        have h0 : tt ≠ [] := fun e => by rw [e] at hp; cases hp
        have hcom := hbr.resolve_left h0
        rw [if_pos hbr, hp, if_neg (by simp)] at hL
        obtain ⟨hx, hL2, hk2⟩ := drop_cons_iff' (M := []) (x := dY (tok0, false)) hL
        have hkl := drop_nil_len hL2 hk2
        rw [List.length_map] at hkl
        simp (disch := omega) only [go_sem, Nat.reduceEqDiff, Nat.reduceAdd, Nat.reduceMul, Nat.reduceSub, Nat.reduceLeDiff, ↓reduceIte, reduceCtorEq, Int.reduceAdd, Int.reduceSub, Int.reduceMul, Int.reduceNeg, Int.reduceToNat, List.reduceReplicate, String.reduceEq, e0, e1, hc, h0]
        refine (hasPrefix_spec (G := G) tt [45, 45]).mono ?_
        rintro _ H1 ⟨rfl, rfl⟩
        rw [com_lib, hcom]
        simp (disch := omega) only [go_sem, Nat.reduceEqDiff, Nat.reduceAdd, Nat.reduceMul, Nat.reduceSub, Nat.reduceLeDiff, ↓reduceIte, reduceCtorEq, Int.reduceAdd, Int.reduceSub, Int.reduceMul, Int.reduceNeg, Int.reduceToNat, List.reduceReplicate, String.reduceEq, e0, e1, hc, h0]
        refine (plain_spec G _ tt (by omega)).mono ?_
        rintro _ H1 ⟨rfl, rfl⟩
        rw [hp]
        simp (disch := omega) only [go_sem, Nat.reduceEqDiff, Nat.reduceAdd, Nat.reduceMul, Nat.reduceSub, Nat.reduceLeDiff, ↓reduceIte, reduceCtorEq, Int.reduceAdd, Int.reduceSub, Int.reduceMul, Int.reduceNeg, Int.reduceToNat, List.reduceReplicate, String.reduceEq, e0, e1, hc]
        refine (hY k _ _ X d1' (by simp [upd, hlr]) hx hI).mono ?_
        rintro e1' H1 ⟨X', (⟨rfl, rfl, d2, hI2⟩ | ⟨rfl, o, ho, rfl, d2, hx2⟩)⟩
        · simp (disch := omega) only [go_sem, Nat.reduceEqDiff, Nat.reduceAdd, Nat.reduceMul, Nat.reduceSub, Nat.reduceLeDiff, ↓reduceIte, reduceCtorEq, Int.reduceAdd, Int.reduceSub, Int.reduceMul, Int.reduceNeg, Int.reduceToNat, List.reduceReplicate, String.reduceEq, e0, e1]
          obtain ⟨k1, k2⟩ := sub_lift (hsb tt) d2
          exact DFin.sub k1 (DFin.refl ⟨⟨_, rfl⟩, X', .inl ⟨rfl, k2, by rw [← hkl]; exact hI2⟩⟩)
        · simp (disch := omega) only [go_sem, Nat.reduceEqDiff, Nat.reduceAdd, Nat.reduceMul, Nat.reduceSub, Nat.reduceLeDiff, ↓reduceIte, reduceCtorEq, Int.reduceAdd, Int.reduceSub, Int.reduceMul, Int.reduceNeg, Int.reduceToNat, List.reduceReplicate, String.reduceEq, e0, e1]
          obtain ⟨k1, k2⟩ := sub_lift ((hsb tt).both l o) d2
          exact DFin.sub k1 (DFin.refl ⟨⟨_, rfl⟩, X', .inr ⟨o, ho, rfl, k2, hx2⟩⟩)
    · have h0 : tt ≠ [] := fun e => hbr (.inl e)
      have hcom : isCom tt = false := by
        cases h : isCom tt with
        | false => rfl
        | true => exact absurd (.inr h) hbr
      rw [if_neg hbr] at hL
      simp (disch := omega) only [go_sem, Nat.reduceEqDiff, Nat.reduceAdd, Nat.reduceMul, Nat.reduceSub, Nat.reduceLeDiff, ↓reduceIte, reduceCtorEq, Int.reduceAdd, Int.reduceSub, Int.reduceMul, Int.reduceNeg, Int.reduceToNat, List.reduceReplicate, String.reduceEq, e0, e1, hc, h0]
      refine (hasPrefix_spec (G := G) tt [45, 45]).mono ?_
      rintro _ H1 ⟨rfl, rfl⟩
      rw [com_lib, hcom]
      simp (disch := omega) only [go_sem, Nat.reduceEqDiff, Nat.reduceAdd, Nat.reduceMul, Nat.reduceSub, Nat.reduceLeDiff, ↓reduceIte, reduceCtorEq, Int.reduceAdd, Int.reduceSub, Int.reduceMul, Int.reduceNeg, Int.reduceToNat, List.reduceReplicate, String.reduceEq, e0, e1, hc, h0]
      match tt, h0 with
      | [], h0 => exact absurd rfl h0
      | c :: r, _ =>
        refine (first_spec hG _ c r (by omega)).mono ?_
        rintro _ H1 ⟨rfl, rfl⟩
        simp (disch := omega) only [go_sem, Nat.reduceEqDiff, Nat.reduceAdd, Nat.reduceMul, Nat.reduceSub, Nat.reduceLeDiff, ↓reduceIte, reduceCtorEq, Int.reduceAdd, Int.reduceSub, Int.reduceMul, Int.reduceNeg, Int.reduceToNat, List.reduceReplicate, String.reduceEq, dFirst, DVal.cells]
        intro rt hrt2; dsimp only at hrt2
        obtain ⟨hAt, hXt⟩ := over_eq_none.1 hrt2
        have hts : rt ≠ rs := fun e => by rw [e, upd_same] at hAt; cases hAt
        have hHt : Hi rt = none := by simpa [upd, hts] using hAt
        have hlt : l ≠ rt := fun e => hHl (e ▸ hHt)
        have d3' := d1'.lo hXt (some (.cells (dTok (firstT (c :: r)).1) 27))
        have hsb2 := (hsb (c :: r)).up hHt (some (.cells (dTok (firstT (c :: r)).1) 27))
        have hst2 : ∀ X' : DHeap, X' rs = none → over (upd (upd Hi rs (some (.cells [.str (c :: r)] 9))) rt (some (.cells (dTok (firstT (c :: r)).1) 27))) X' rs = some (.cells [.str (c :: r)] 9) := fun X' h => by
          rw [over_hi h]; simp [upd, Ne.symm hts]
        have hmv : ∀ (A : DHeap) (o' : DObj), over A (upd X rt (some o')) = over (upd A rt (some o')) X := fun A o' => by
          funext b
          by_cases e : b = rt
          · subst e; simp [over, upd, hXt]
          · simp [over, upd, e]
        have hfl := first_le (c :: r)
        by_cases hn : (firstT (c :: r)).2 = 0
        · have hn' : ((firstT (c :: r)).2 : Int) = 0 := by omega
          rw [if_pos hn] at hL
          obtain ⟨hx, hL2, hk2⟩ := drop_cons_iff' (M := []) (x := dY ((firstT (c :: r)).1, false)) hL
          have hkl := drop_nil_len hL2 hk2
          rw [List.length_map] at hkl
          simp (disch := omega) only [go_sem, Nat.reduceEqDiff, Nat.reduceAdd, Nat.reduceMul, Nat.reduceSub, Nat.reduceLeDiff, ↓reduceIte, reduceCtorEq, Int.reduceAdd, Int.reduceSub, Int.reduceMul, Int.reduceNeg, Int.reduceToNat, List.reduceReplicate, String.reduceEq, e0, e1, hc, hn', dTok_len, dTok_t4, dTok_d4, dTok_one, List.append_nil]
          rw [hmv]
          refine (hY k _ _ X d3' (by simp [upd, hlr, hlt]) hx hI).mono ?_
          rintro e1' H1 ⟨X', (⟨rfl, rfl, d2, hI2⟩ | ⟨rfl, o, ho, rfl, d2, hx2⟩)⟩
          · simp (disch := omega) only [go_sem, Nat.reduceEqDiff, Nat.reduceAdd, Nat.reduceMul, Nat.reduceSub, Nat.reduceLeDiff, ↓reduceIte, reduceCtorEq, Int.reduceAdd, Int.reduceSub, Int.reduceMul, Int.reduceNeg, Int.reduceToNat, List.reduceReplicate, String.reduceEq, e0, e1, hn']
            obtain ⟨k1, k2⟩ := sub_lift hsb2 d2
            exact DFin.sub k1 (DFin.refl ⟨⟨_, rfl⟩, X', .inl ⟨rfl, k2, by rw [← hkl]; exact hI2⟩⟩)
          · simp (disch := omega) only [go_sem, Nat.reduceEqDiff, Nat.reduceAdd, Nat.reduceMul, Nat.reduceSub, Nat.reduceLeDiff, ↓reduceIte, reduceCtorEq, Int.reduceAdd, Int.reduceSub, Int.reduceMul, Int.reduceNeg, Int.reduceToNat, List.reduceReplicate, String.reduceEq, e0, e1]
            obtain ⟨k1, k2⟩ := sub_lift (hsb2.both l o) d2
            exact DFin.sub k1 (DFin.refl ⟨⟨_, rfl⟩, X', .inr ⟨o, ho, rfl, k2, hx2⟩⟩)
        · have hn' : (0 : Int) < ((firstT (c :: r)).2 : Int) := by omega
          have hn2 : ¬ ((firstT (c :: r)).2 : Int) = 0 := by omega
          have hn3 : ((firstT (c :: r)).2 : Int) ≤ ((c :: r).length : Int) := by omega
          rw [if_neg hn, List.map_cons] at hL
          obtain ⟨hx, hL2, hk2⟩ := drop_cons_iff' hL
          simp (disch := omega) only [go_sem, Nat.reduceEqDiff, Nat.reduceAdd, Nat.reduceMul, Nat.reduceSub, Nat.reduceLeDiff, ↓reduceIte, reduceCtorEq, Int.reduceAdd, Int.reduceSub, Int.reduceMul, Int.reduceNeg, Int.reduceToNat, List.reduceReplicate, String.reduceEq, e0, e1, hc, hn', dTok_len, dTok_t4, dTok_d4, dTok_one, List.append_nil]
          rw [hmv]
          refine (hY k _ _ X d3' (by simp [upd, hlr, hlt]) hx hI).mono ?_
          rintro e1' H1 ⟨X', (⟨rfl, rfl, d2, hI2⟩ | ⟨rfl, o, ho, rfl, d2, hx2⟩)⟩
          · have hX2 : X' rs = none := d2.x (by simp [upd, Ne.symm hts])
            have hdr : ((c :: r).drop (firstT (c :: r)).2).take ((c :: r).length - (firstT (c :: r)).2) = (c :: r).drop (firstT (c :: r)).2 := List.take_of_length_le (by rw [List.length_drop]; exact Nat.le_refl _)
            have hdr2 : ((c :: r).drop (firstT (c :: r)).2).take (r.length + 1 - (firstT (c :: r)).2) = (c :: r).drop (firstT (c :: r)).2 := hdr
            simp (disch := omega) only [go_sem, Nat.reduceEqDiff, Nat.reduceAdd, Nat.reduceMul, Nat.reduceSub, Nat.reduceLeDiff, ↓reduceIte, reduceCtorEq, Int.reduceAdd, Int.reduceSub, Int.reduceMul, Int.reduceNeg, Int.reduceToNat, List.reduceReplicate, String.reduceEq, e0, e1, hn', hn2, hst2 X' hX2, hn3, Int.toNat_natCast, hdr, hdr2]
            have hlen : ((c :: r).drop (firstT (c :: r)).2).length < t.length := by rw [List.length_drop]; omega
            generalize hrest : (c :: r).drop (firstT (c :: r)).2 = rest at hlen hL2
            refine ⟨(k + 1, rest), _, GhostS.sub (H' := over (upd Hi rs (some (.cells [.str rest] 9))) X') (fun b o hb => ?_), (hJ _ _ _).2 ?_, hlen⟩
            · cases ex : X' b with
              | some o2 =>
                have hb2 : b ≠ rs := fun e => by rw [e, hX2] at ex; cases ex
                simp [over, upd, ex, hb2] at hb ⊢
                exact hb
              | none =>
                by_cases e : b = rs
                · subst e
                  simp [over, upd, hX2] at hb ⊢
                  exact hb
                · simp [over, upd, ex, e] at hb ⊢
                  have h2 : b ≠ rt := fun e2 => by rw [e2, hHt] at hb; cases hb
                  simp [h2, hb]
            · simp (disch := omega) only [go_sem, Nat.reduceEqDiff, Nat.reduceAdd, Nat.reduceMul, Nat.reduceSub, Nat.reduceLeDiff, ↓reduceIte, reduceCtorEq, Int.reduceAdd, Int.reduceSub, Int.reduceMul, Int.reduceNeg, Int.reduceToNat, List.reduceReplicate, String.reduceEq, e0, e1]
              (repeat' apply And.intro) <;> (try first | rfl | assumption | omega)
              · simpa using hk2
              · rw [over_hi hX2, upd_same]
              · refine ⟨X', rfl, fun b hb => ?_, hI2⟩
                have h3 := d2 b hb
                have e : b ≠ rs := fun e => hb (e ▸ hX2)
                by_cases e2 : b = rt
                · subst e2; rw [upd_same] at h3; cases h3
                · simp only [upd, if_neg e, if_neg e2] at h3 ⊢; exact h3
          · simp (disch := omega) only [go_sem, Nat.reduceEqDiff, Nat.reduceAdd, Nat.reduceMul, Nat.reduceSub, Nat.reduceLeDiff, ↓reduceIte, reduceCtorEq, Int.reduceAdd, Int.reduceSub, Int.reduceMul, Int.reduceNeg, Int.reduceToNat, List.reduceReplicate, String.reduceEq, e0, e1]
            obtain ⟨k1, k2⟩ := sub_lift (hsb2.both l o) d2
            exact DFin.sub k1 (DFin.refl ⟨⟨_, rfl⟩, X', .inr ⟨o, ho, rfl, k2, hx2⟩⟩)
end Go.Dl

-- Chapter 2: tokens: the plain laws, part 10: how far the reading of a text has come.
namespace Go.Dl
open Go
set_option maxRecDepth 10000

structure OKY (P : List (Tok × Bool × Int)) : Prop where
  ok : ∀ p ∈ P, p.2.1 = true
  len : P.length ≤ 8192
theorem OKY.nil : OKY [] := ⟨fun _ h => (by cases h), by simp⟩
theorem outY_at {P R : List (Tok × Bool × Int)} (h : OKY P) (p : Tok × Bool × Int) : outY (P ++ p :: R) 0 = if p.2.1 = false then some (p.2.2, 20) else if P.length = 8192 then some (p.2.2, 3) else outY R (P.length + 1) := by
  have h2 := h.len
  rw [outY_app, outY_none P 0 h.ok (by omega)]
  dsimp only
  rw [outY, Nat.zero_add]
/-- What a line yields, with its number. -/
def lineY (s : List UInt8) (i : Nat) : List (Tok × Bool × Int) := (yieldsL s).map fun p => ({ p.1 with line := (i : Int) }, p.2, (i : Int))
theorem allY_split {ls : List (List UInt8)} {j : Nat} (hj : j < ls.length) : allY ls 1 = allY (ls.take j) 1 ++ (lineY ls[j] (j + 1) ++ allY (ls.drop (j + 1)) (j + 2)) := by
  have h1 : allY ls 1 = allY (ls.take j ++ ls[j] :: ls.drop (j + 1)) 1 := by rw [← List.drop_eq_getElem_cons hj, List.take_append_drop]
  rw [h1, allY_app, List.length_take, Nat.min_eq_left (by omega), Nat.add_comm 1 j, allY]
  rfl
theorem allY_take {ls : List (List UInt8)} {j : Nat} (hj : j < ls.length) : allY (ls.take (j + 1)) 1 = allY (ls.take j) 1 ++ lineY ls[j] (j + 1) := by
  rw [List.take_add_one, List.getElem?_eq_getElem hj, allY_app, List.length_take, Nat.min_eq_left (by omega), Nat.add_comm 1 j]
  show _ ++ allY [ls[j]] (j + 1) = _
  rw [allY, allY, List.append_nil]; rfl
/-- The reading of line j has come to its token k. -/
structure AtK (ls : List (List UInt8)) (j k : Nat) : Prop where
  lt : j < ls.length
  ok : OKY (allY (ls.take j) 1 ++ (lineY (ls.getD j []) (j + 1)).take k)
def toksK (ls : List (List UInt8)) (j k : Nat) : List Tok := (allY (ls.take j) 1 ++ (lineY (ls.getD j []) (j + 1)).take k).map (·.1)
theorem getD_at {ls : List (List UInt8)} {j : Nat} (h : j < ls.length) : ls.getD j [] = ls[j] := by rw [List.getD, List.getElem?_eq_getElem h]; rfl
theorem atK_next {ls : List (List UInt8)} {j k : Nat} {p : Tok × Bool} (h : AtK ls j k) (hp : (yieldsL (ls.getD j []))[k]? = some p) :
    (p.2 = false → outY (allY ls 1) 0 = some (((j + 1 : Nat) : Int), 20)) ∧
    (p.2 = true → (toksK ls j k).length = 8192 → outY (allY ls 1) 0 = some (((j + 1 : Nat) : Int), 3)) ∧
    (p.2 = true → (toksK ls j k).length ≠ 8192 → AtK ls j (k + 1) ∧ toksK ls j (k + 1) = toksK ls j k ++ [{ p.1 with line := ((j + 1 : Nat) : Int) }]) := by
  obtain ⟨hj, hok⟩ := h
  have hl : (lineY (ls.getD j []) (j + 1))[k]? = some ({ p.1 with line := ((j + 1 : Nat) : Int) }, p.2, ((j + 1 : Nat) : Int)) := by rw [lineY, List.getElem?_map, hp]; rfl
  obtain ⟨hk, he⟩ := List.getElem?_eq_some_iff.1 hl
  have hsp : allY ls 1 = (allY (ls.take j) 1 ++ (lineY (ls.getD j []) (j + 1)).take k) ++ ({ p.1 with line := ((j + 1 : Nat) : Int) }, p.2, ((j + 1 : Nat) : Int)) :: ((lineY (ls.getD j []) (j + 1)).drop (k + 1) ++ allY (ls.drop (j + 1)) (j + 2)) := by
    rw [allY_split hj, ← getD_at hj, ← he, List.append_assoc, ← List.cons_append, ← List.drop_eq_getElem_cons hk, ← List.append_assoc (List.take k _), List.take_append_drop]
  have hlen : (toksK ls j k).length = (allY (ls.take j) 1 ++ (lineY (ls.getD j []) (j + 1)).take k).length := by rw [toksK, List.length_map]
  have hat := outY_at (R := (lineY (ls.getD j []) (j + 1)).drop (k + 1) ++ allY (ls.drop (j + 1)) (j + 2)) hok ({ p.1 with line := ((j + 1 : Nat) : Int) }, p.2, ((j + 1 : Nat) : Int))
  rw [← hsp] at hat
  refine ⟨fun h => ?_, fun h h8 => ?_, fun h h8 => ?_⟩
  · rw [hat, if_pos h]
  · rw [hat, if_neg (by rw [h]; simp), if_pos (by rw [← hlen]; exact h8)]
  · have ht : (lineY (ls.getD j []) (j + 1)).take (k + 1) = (lineY (ls.getD j []) (j + 1)).take k ++ [({ p.1 with line := ((j + 1 : Nat) : Int) }, p.2, ((j + 1 : Nat) : Int))] := by rw [List.take_add_one, hl]; rfl
    have hl2 := hok.len
    refine ⟨⟨hj, ⟨fun q hq => ?_, ?_⟩⟩, ?_⟩
    · rw [ht, ← List.append_assoc] at hq
      rcases List.mem_append.1 hq with hq | hq
      · exact hok.ok q hq
      · rw [List.mem_singleton] at hq; subst hq; exact h
    · rw [ht, ← List.append_assoc, List.length_append, List.length_singleton]; omega
    · rw [toksK, ht, ← List.append_assoc, List.map_append]; rfl
theorem atK_line {ls : List (List UInt8)} {j : Nat} (h : AtK ls j (yieldsL (ls.getD j [])).length) : OKY (allY (ls.take (j + 1)) 1) ∧ toksK ls j (yieldsL (ls.getD j [])).length = (allY (ls.take (j + 1)) 1).map (·.1) := by
  have hk : (lineY (ls.getD j []) (j + 1)).take (yieldsL (ls.getD j [])).length = lineY (ls.getD j []) (j + 1) := List.take_of_length_le (by simp [lineY])
  have := h.ok
  rw [hk, getD_at h.lt, ← allY_take h.lt] at this
  exact ⟨this, by rw [toksK, hk, getD_at h.lt, ← allY_take h.lt]⟩
theorem atK_start {ls : List (List UInt8)} {j : Nat} (hj : j < ls.length) (h : OKY (allY (ls.take j) 1)) : AtK ls j 0 ∧ toksK ls j 0 = (allY (ls.take j) 1).map (·.1) := by
  have e : allY (ls.take j) 1 ++ (lineY (ls.getD j []) (j + 1)).take 0 = allY (ls.take j) 1 := by simp
  exact ⟨⟨hj, by rw [e]; exact h⟩, by rw [toksK, e]⟩
theorem tokens_end {s : List UInt8} (hs : s.length ≤ 65536) (h : OKY (allY (linesL s) 1)) : tokensL s = ((allY (linesL s) 1).map (·.1), 0, 0) := by
  have := h.len
  rw [tokensL, if_neg (by omega), outY_none _ 0 h.ok (by omega)]
theorem tokens_err {s : List UInt8} (hs : s.length ≤ 65536) {e : Int × Int} (h : outY (allY (linesL s) 1) 0 = some e) : tokensL s = ([], e.1, e.2) := by
  rw [tokensL, if_neg (by omega), h]
theorem splitBy_el (c : UInt8) : ∀ (a cur : List UInt8), ∀ w ∈ splitBy c a cur, w.length ≤ a.length + cur.length
  | [], cur, w, hw => by
    simp only [splitBy, List.mem_singleton] at hw; subst hw; simp
  | x :: a, cur, w, hw => by
    rw [splitBy] at hw
    split at hw
    · rcases List.mem_cons.1 hw with rfl | hw
      · omega
      · have := splitBy_el c a [] w hw
        simp only [List.length_nil, List.length_cons] at this ⊢; omega
    · have := splitBy_el c a _ w hw
      simp only [List.length_append, List.length_cons, List.length_nil] at this ⊢; omega
end Go.Dl

-- Chapter 2: a slice of the call's own kept in a cell, beside other cells.
namespace Go.Dl
open Go Go.Proofs
set_option maxRecDepth 10000

theorem GhostE.sub1' {H H' : DHeap} {v v' : DVal} (h : GhostE H v H' v') {pre post : List DVal} (hp : loose.looses pre = true) (hq : loose.looses post = true) (w : World) (hw : SimHeap w H) : ∀ xs, RelL w H (pre ++ v :: post) xs → RelL w H' (pre ++ v' :: post) xs := by
  intro xs hx
  have e : xs = xs.take pre.length ++ xs.drop pre.length := (List.take_append_drop _ _).symm
  have h1 := hx.take pre.length
  have h2 := hx.drop pre.length
  rw [List.take_left] at h1
  rw [List.drop_left] at h2
  rw [e]
  refine (looses_rel _ _ hp h1).append ?_
  simp only [RelL] at h2 ⊢
  obtain ⟨y, ys, h3, h4, h5⟩ := h2
  rw [h3]
  exact ⟨y, ys, rfl, (h w hw).2.2 y h4, looses_rel _ _ hq h5⟩
theorem GhostE.tuple1' {H H' : DHeap} {v v' : DVal} (h : GhostE H v H' v') {pre post : List DVal} (hp : loose.looses pre = true) (hq : loose.looses post = true) : GhostE H (.tuple (pre ++ v :: post)) H' (.tuple (pre ++ v' :: post)) := fun w hw =>
  ⟨(h w hw).1, (h w hw).2.1, fun x hx => by
    simp only [Rel] at hx ⊢
    obtain ⟨xs, rfl, hl⟩ := hx
    exact ⟨xs, rfl, h.sub1' hp hq w hw _ hl⟩⟩

theorem OwnJ.lift {Hi Hb X : DHeap} {e : TypeId} {size n : Nat} {cs : List DVal} {v : DVal} (h : OwnJ Hb e size n cs v X) (hd : Disj Hi X) : OwnJ (over Hi Hb) e size n cs v (over Hi X) := by
  have hs := (sub_lift (Hi := Hi) (Hi' := Hi) (Sub.refl _) hd).2
  have key : Sub (over Hi Hb) (over Hi X) := fun i o hi => by
    cases e1 : Hb i with
    | some o2 => rw [over_x e1] at hi; rw [over_x (h.sub i o2 e1)]; exact hi
    | none =>
      rw [over_hi e1] at hi
      cases e2 : X i with
      | none => rw [over_hi e2]; exact hi
      | some o2 => rw [hd i (by rw [e2]; simp)] at hi; cases hi
  rcases h with ⟨rfl, rfl, rfl, h4⟩ | ⟨r, h1, h2, rfl, h4, h5⟩
  · exact .inl ⟨rfl, rfl, rfl, key⟩
  · exact .inr ⟨r, by rw [over_hi h1]; exact hd r (by rw [h4]; simp), h2, rfl, by rw [over_x h4], key⟩
theorem sub_over {H Hi X : DHeap} (h : Sub H Hi) (d : Disj Hi X) : Sub H (over Hi X) := fun r o hr => by
  rw [over_hi (d.x (by rw [h r o hr]; simp))]; exact h r o hr
theorem OwnJ.set {B X : DHeap} {e : TypeId} {size n : Nat} {cs : List DVal} {v : DVal} (h : OwnJ B e size n cs v X) {r : Nat} (hr : B r ≠ none) (o : DObj) : OwnJ (upd B r (some o)) e size n cs v (upd X r (some o)) := by
  rcases h with ⟨h1, h2, h3, h4⟩ | ⟨r0, h1, h2, h3, h4, h5⟩
  · exact .inl ⟨h1, h2, h3, h4.both _ _⟩
  · have hne : r0 ≠ r := fun e => hr (e ▸ h1)
    exact .inr ⟨r0, by simp [upd, hne, h1], h2, h3, by simp [upd, hne, h4], h5.both _ _⟩
/-- The cells C of the loop's memory, and the rest of it. -/
theorem ownJ_cell {Hi C B' H2 : DHeap} {e : TypeId} {size n : Nat} {cs : List DVal} {v : DVal} (hB : Sub Hi B') (hC : Sub C B') (hd : Disj Hi C) (h : OwnJ B' e size (n + 1) cs v H2) {r : Nat} (hr : C r ≠ none) (o : DObj) :
    ∃ X', upd H2 r (some o) = over Hi X' ∧ Disj Hi X' ∧ OwnJ (upd C r (some o)) e size (n + 1) cs v X' := by
  have hs : Sub Hi H2 := hB.trans h.sub
  have ir : Hi r = none := hd r hr
  refine ⟨upd (fun i => if Hi i = none then H2 i else none) r (some o), ?_, ?_, ?_⟩
  · funext i
    simp only [upd, over]
    by_cases e1 : i = r
    · simp [e1]
    · simp only [if_neg e1]
      cases e2 : Hi i with
      | none => simp; cases H2 i <;> rfl
      | some o2 => simp [hs i o2 e2]
  · intro i hi
    simp only [upd] at hi
    split at hi
    · rename_i e1; rw [e1]; exact ir
    · split at hi
      · assumption
      · simp at hi
  · rcases h with ⟨h, _⟩ | ⟨r0, h1, h2, rfl, h4, h5⟩
    · omega
    · have hn : r0 ≠ r := fun e => hr (by rw [← e]; exact hC.lo h1)
      refine .inr ⟨r0, by simp [upd, hn, hC.lo h1], h2, rfl, by simp only [upd, if_neg hn, hB.lo h1, if_true]; exact h4, fun i oi hi => ?_⟩
      simp only [upd] at hi ⊢
      split at hi
      · rename_i e1; rw [if_pos e1]; exact hi
      · rename_i e1
        rw [if_neg e1, hd i (by rw [hi]; simp), if_pos rfl]
        exact h5 _ _ (hC _ _ hi)
/-- What of a memory is neither H nor block rs. -/
def restX (H Hp : DHeap) (rs : Nat) : DHeap := fun i => if H i = none ∧ i ≠ rs then Hp i else none
theorem restX_at {H Hp : DHeap} {rs i : Nat} (h1 : H i = none) (h2 : i ≠ rs) : restX H Hp rs i = Hp i := by simp [restX, h1, h2]
theorem restX_disj (H Hp : DHeap) (rs : Nat) : Disj H (restX H Hp rs) := fun i hi => by
  unfold restX at hi
  split at hi
  · rename_i h; exact h.1
  · exact absurd rfl hi
theorem restX_over {H Hp : DHeap} {rs : Nat} {o : DObj} (hs : Sub H Hp) (hr : H rs = none) : upd Hp rs (some o) = over (over H (upd h0 rs (some o))) (restX H Hp rs) := by
  funext i
  by_cases e : i = rs
  · subst e; simp [upd, over, restX]
  · cases e2 : H i with
    | none => simp [upd, over, restX, e, e2, h0]; cases Hp i <;> rfl
    | some o2 => simp [upd, over, restX, e, e2, h0, hs i o2 e2]
theorem ownJ_rest {H C Hp : DHeap} {rs : Nat} {e : TypeId} {size n : Nat} {cs : List DVal} {v : DVal} (h : OwnJ (over H C) e size n cs v Hp) (hd : Disj H C) (hr : Hp rs = none) : OwnJ C e size n cs v (restX H Hp rs) := by
  have hsC : Sub C (restX H Hp rs) := fun i o hi => by
    have h1 := hd i (by rw [hi]; simp)
    have h2 := h.keep (r := i) (o := o) (by rw [over_x hi])
    have h3 : i ≠ rs := fun e => by rw [e, hr] at h2; cases h2
    rw [restX_at h1 h3]; exact h2
  rcases h with ⟨h1, h2, h3, h4⟩ | ⟨r0, h1, h2, h3, h4, h5⟩
  · exact .inl ⟨h1, h2, h3, hsC⟩
  · obtain ⟨g1, g2⟩ := over_eq_none.1 h1
    have hn : r0 ≠ rs := fun e => by rw [e, hr] at h4; cases h4
    exact .inr ⟨r0, g2, h2, h3, by rw [restX_at g1 hn]; exact h4, hsC⟩
theorem dwp_rangeY {P : Program} {G : Nat → DVal} {N : Nat} {Q : DExit → DS → Prop} {g : Operand} {ps : List Tmp} {asg body : Code} {s : DS} (gf : FuncId) (captured : List DVal) (Y : DHeap) (L : List (List DVal))
    (hit : DIter P G gf captured Y L) (hg : dev G s.env g = .func (.func gf) [] captured)
    (hok : (opdOk N g && codeOk N asg && codeOk N body && flat asg && flat body) = true) (hL : ∀ x ∈ L, x.length = ps.length)
    (Hi X : DHeap) (hs : s.heap = over (over Hi Y) X) (d1 : Disj Hi X) (d2 : Disj Hi Y) (d3 : Disj Y X)
    (I : Nat → DHeap → Prop) (Ix : Code → DHeap → Prop) (i0 : I 0 X)
    (hbody : ∀ k x Hi X, Disj Hi X → L[k]? = some x → I k X → dwp P G N asg (DThen (dwp P G N body (DBodyQ Hi (I (k + 1)) Ix))) ⟨dbind s.env ps x, over Hi X⟩)
    (hdone : ∀ X, Disj Hi X → I L.length X → Q .normal ⟨s.env, over Hi X⟩)
    (hexit : ∀ c X, Disj Hi X → Ix c X → DJump Q c ⟨s.env, over Hi X⟩) : dwp P G N (.rangeFunc g ps.toArray asg body) Q s := by
  simp only [dwp]
  exact dwp0_range hg hok hit (by simpa using hL) Hi X hs d1 d2 d3 I Ix i0 (fun k x Hi X a b c => by simpa using hbody k x Hi X a b c) hdone hexit
end Go.Dl

-- Chapter 2: Tokens.
namespace Go.Dl
open Go Go.Proofs
set_option maxRecDepth 100000

def dToks (l : List Tok) : DVal := .vslice (l.flatMap dTok) l.length
def C3 (r2 r3 r4 : Nat) (v : DVal) (line e : Int) : DHeap := upd (upd (upd h0 r2 (some (.cells [v] 24))) r3 (some (.cells [dI line] 3))) r4 (some (.cells [dI e] 33))
def C4 (r2 r3 r4 r5 : Nat) (i : Int) (v : DVal) (line e : Int) : DHeap := upd (C3 r2 r3 r4 v line e) r5 (some (.cells [dI i] 3))
def T3 (H : DHeap) (r2 r3 r4 : Nat) (ts : List Tok) (heap : DHeap) : Prop := ∃ v, OwnJ (over H (C3 r2 r3 r4 v 0 0)) 27 4 ts.length (ts.flatMap dTok) v heap
def T4 (r2 r3 r4 r5 : Nat) (i : Int) (ts : List Tok) (line e : Int) (X : DHeap) : Prop := ∃ v, OwnJ (C4 r2 r3 r4 r5 i v line e) 27 4 ts.length (ts.flatMap dTok) v X
theorem C4_set {r2 r3 r4 r5 : Nat} (n25 : r2 ≠ r5) (n35 : r3 ≠ r5) (n45 : r4 ≠ r5) (n23 : r2 ≠ r3) (n24 : r2 ≠ r4) (n34 : r3 ≠ r4) (i : Int) (v : DVal) (line e line' e' : Int) :
    upd (upd (C4 r2 r3 r4 r5 i v line e) r3 (some (.cells [dI line'] 3))) r4 (some (.cells [dI e'] 33)) = C4 r2 r3 r4 r5 i v line' e' := by
  funext b
  simp only [C4, C3, upd]
  by_cases h5 : b = r5
  · subst h5; simp [Ne.symm n35, Ne.symm n45]
  · by_cases h4 : b = r4
    · subst h4; simp [h5]
    · by_cases h3 : b = r3
      · subst h3; simp [h5, h4]
      · simp [h5, h4, h3]
theorem C4_v {r2 r3 r4 r5 : Nat} (n25 : r2 ≠ r5) (n23 : r2 ≠ r3) (n24 : r2 ≠ r4) (i : Int) (v v' : DVal) (line e : Int) :
    upd (C4 r2 r3 r4 r5 i v line e) r2 (some (.cells [v'] 24)) = C4 r2 r3 r4 r5 i v' line e := by
  funext b
  simp only [C4, C3, upd]
  by_cases h2 : b = r2
  · subst h2; simp [n25, n23, n24]
  · simp [h2]
theorem disj_sub {Hi C X : DHeap} (hd : Disj Hi X) (h : Sub C X) : Disj Hi C := fun b hb => hd b fun e => by
  cases hc : C b with
  | none => exact hb hc
  | some o => rw [h b o hc] at e; cases e
theorem OwnJ.dLen {H H' : DHeap} {e t : TypeId} {size n : Nat} {cs : List DVal} {v : DVal} (h : OwnJ H e size n cs v H') {dst : Option Nat} {K : DK} {s : DS} : Dl.dLen dst (some (.slice t)) v K s = dput dst (dI n) K s := by
  rcases h with ⟨rfl, _, rfl, _⟩ | ⟨r, _, _, rfl, _, _⟩
  · rfl
  · rfl
section
variable {G : Nat → DVal} {H : DHeap}
theorem dToks_nil {H' : DHeap} (h : Sub H H') (ds : List DVal) (hd : loose.looses ds = true) : GhostE H' (.tuple (.nilSlice :: ds)) H (.tuple (dToks [] :: ds)) :=
  (GhostE.sub h _).trans (GhostE.tuple1' (pre := []) (OwnJ.nil 27 4 (Sub.refl H)).ghost rfl hd)
set_option maxHeartbeats 8000000 in
theorem lexTokensO_spec (hG : GX G) (H : DHeap) (src : List UInt8) (hs : src.length ≤ 1000000000) : DCalls Tryz.prog G 29 [.str src] H (fun e H' => ∃ v p, tokensL src = p ∧ e = .ret (.tuple [v, dI p.2.1, dI p.2.2]) ∧ OwnJ H 27 4 p.1.length (p.1.flatMap dTok) v H') := by
  refine dcalls_intro Tryz.func29 Tryz.call29 rfl (by kernel_rfl) ?_
  simp (disch := omega) only [go_sem, Nat.reduceEqDiff, Nat.reduceAdd, Nat.reduceMul, Nat.reduceSub, Nat.reduceLeDiff, ↓reduceIte, reduceCtorEq, Int.reduceAdd, Int.reduceSub, Int.reduceMul, Int.reduceNeg, Int.reduceToNat, List.reduceReplicate, String.reduceEq]
  intro r2 hr2; dsimp only at hr2
  simp (disch := omega) only [go_sem, Nat.reduceEqDiff, Nat.reduceAdd, Nat.reduceMul, Nat.reduceSub, Nat.reduceLeDiff, ↓reduceIte, reduceCtorEq, Int.reduceAdd, Int.reduceSub, Int.reduceMul, Int.reduceNeg, Int.reduceToNat, List.reduceReplicate, String.reduceEq]
  intro r3 hr3; dsimp only at hr3
  obtain ⟨a1, a2, hr3'⟩ := upd_eq_none.1 hr3
  simp (disch := omega) only [go_sem, Nat.reduceEqDiff, Nat.reduceAdd, Nat.reduceMul, Nat.reduceSub, Nat.reduceLeDiff, ↓reduceIte, reduceCtorEq, Int.reduceAdd, Int.reduceSub, Int.reduceMul, Int.reduceNeg, Int.reduceToNat, List.reduceReplicate, String.reduceEq, a1, a2]
  intro r4 hr4; dsimp only at hr4
  obtain ⟨b1, b2, hr4a⟩ := upd_eq_none.1 hr4
  obtain ⟨b3, b4, hr4'⟩ := upd_eq_none.1 hr4a
  by_cases hl : 65536 < src.length
  · have hl' : (65536 : Int) < (src.length : Int) := by omega
    simp (disch := omega) only [go_sem, Nat.reduceEqDiff, Nat.reduceAdd, Nat.reduceMul, Nat.reduceSub, Nat.reduceLeDiff, ↓reduceIte, reduceCtorEq, Int.reduceAdd, Int.reduceSub, Int.reduceMul, Int.reduceNeg, Int.reduceToNat, List.reduceReplicate, String.reduceEq, a1, a2, b1, b2, b3, b4, hl', List.append_nil]
    exact DFin.refl ⟨.nilSlice, ([], 0, 3), by rw [tokensL, if_pos hl], rfl, OwnJ.nil _ _ (show Sub H _ from (by repeat (first | exact Sub.refl _ | assumption | refine Sub.up ?_ (by assumption) _)))⟩
  have hl' : ¬ (65536 : Int) < (src.length : Int) := by omega
  simp (disch := omega) only [go_sem, Nat.reduceEqDiff, Nat.reduceAdd, Nat.reduceMul, Nat.reduceSub, Nat.reduceLeDiff, ↓reduceIte, reduceCtorEq, Int.reduceAdd, Int.reduceSub, Int.reduceMul, Int.reduceNeg, Int.reduceToNat, List.reduceReplicate, String.reduceEq, a1, a2, b1, b2, b3, b4, hl']
  refine (split_spec hG.gt src 10 (by omega)).mono ?_
  rintro _ H1 ⟨rfl, rfl⟩
  rw [show splitBy 10 src [] = linesL src from rfl]
  have hsum : sumLen (linesL src) = src.length + 0 + 1 := splitBy_sum 10 src []
  obtain ⟨ls, hls⟩ : ∃ ls, ls = linesL src := ⟨_, rfl⟩
  have hlen : ∀ s ∈ ls, s.length ≤ 65536 := fun s hm => by
    have := splitBy_el 10 src [] s (by rw [hls] at hm; exact hm)
    simp at this; omega
  rw [← hls]
  simp (disch := omega) only [go_sem, Nat.reduceEqDiff, Nat.reduceAdd, Nat.reduceMul, Nat.reduceSub, Nat.reduceLeDiff, ↓reduceIte, reduceCtorEq, Int.reduceAdd, Int.reduceSub, Int.reduceMul, Int.reduceNeg, Int.reduceToNat, List.reduceReplicate, String.reduceEq, dStrs]
  obtain ⟨I, hI⟩ : ∃ I : Nat → (Nat → DVal) → DHeap → Prop, ∀ j env heap, I j env heap ↔ (env 2 = .optr r2 0 ∧ env 3 = .optr r3 0 ∧ env 4 = .optr r4 0 ∧ env 13 = .vslice (ls.map .str) ls.length ∧ env 14 = dI ls.length ∧ env 15 = dI j ∧ j ≤ ls.length ∧ OKY (allY (ls.take j) 1) ∧ T3 H r2 r3 r4 ((allY (ls.take j) 1).map (·.1)) heap) := ⟨_, fun _ _ _ => Iff.rfl⟩
  refine DLoop.run I (fun j => ls.length - j) 0 ((hI _ _ _).2 ?_) ?_
  · simp (disch := omega) only [go_sem, Nat.reduceEqDiff, Nat.reduceAdd, Nat.reduceMul, Nat.reduceSub, Nat.reduceLeDiff, ↓reduceIte, reduceCtorEq, Int.reduceAdd, Int.reduceSub, Int.reduceMul, Int.reduceNeg, Int.reduceToNat, List.reduceReplicate, String.reduceEq]
    (repeat' apply And.intro) <;> (try first | rfl | assumption | omega)
    · exact OKY.nil
    · refine ⟨.nilSlice, OwnJ.nil _ _ ?_⟩
      rw [C3, ← upd_over, ← upd_over, ← upd_over, over_h0]
      exact Sub.refl _
  · intro j env heap hi
    obtain ⟨e2, e3, e4, e13, e14, e15, hj, hok, v, hv⟩ := (hI _ _ _).1 hi
    have k2 : heap r2 = some (.cells [v] 24) := hv.keep (over_x (by simp [C3, upd, a1, a2, b1, b2, b3, b4]))
    have k3 : heap r3 = some (.cells [dI 0] 3) := hv.keep (over_x (by simp [C3, upd, a1, a2, b1, b2, b3, b4]))
    have k4 : heap r4 = some (.cells [dI 0] 33) := hv.keep (over_x (by simp [C3, upd, a1, a2, b1, b2, b3, b4]))
    by_cases hlt : j < ls.length
    · have hlt' : (j : Int) < (ls.length : Int) := by omega
      have hg : (ls.map DVal.str)[j]? = some (.str ls[j]) := by rw [List.getElem?_map, List.getElem?_eq_getElem hlt]; rfl
      simp (disch := omega) only [go_sem, Nat.reduceEqDiff, Nat.reduceAdd, Nat.reduceMul, Nat.reduceSub, Nat.reduceLeDiff, ↓reduceIte, reduceCtorEq, Int.reduceAdd, Int.reduceSub, Int.reduceMul, Int.reduceNeg, Int.reduceToNat, List.reduceReplicate, String.reduceEq, e2, e3, e4, e13, e14, e15, hlt', hlt, hg, Int.toNat_natCast]
      intro r5 hr5; dsimp only at hr5
      have n2 : r2 ≠ r5 := fun e => by rw [e, hr5] at k2; cases k2
      have n3 : r3 ≠ r5 := fun e => by rw [e, hr5] at k3; cases k3
      have n4 : r4 ≠ r5 := fun e => by rw [e, hr5] at k4; cases k4
      simp (disch := omega) only [go_sem, Nat.reduceEqDiff, Nat.reduceAdd, Nat.reduceMul, Nat.reduceSub, Nat.reduceLeDiff, ↓reduceIte, reduceCtorEq, Int.reduceAdd, Int.reduceSub, Int.reduceMul, Int.reduceNeg, Int.reduceToNat, List.reduceReplicate, String.reduceEq, e2, e3, e4, e13, e14, e15, n2, n3, n4]
      refine (tokensF_spec G _ ls[j]).mono ?_
      rintro _ H1 ⟨rs, rfl, hrs, rfl⟩
      simp (disch := omega) only [go_sem, Nat.reduceEqDiff, Nat.reduceAdd, Nat.reduceMul, Nat.reduceSub, Nat.reduceLeDiff, ↓reduceIte, reduceCtorEq, Int.reduceAdd, Int.reduceSub, Int.reduceMul, Int.reduceNeg, Int.reduceToNat, List.reduceReplicate, String.reduceEq, e2, e3, e4, e13, e14, e15, n2, n3, n4]
      have hll := hlen ls[j] (List.getElem_mem hlt)
      have hw1 : IntKind.i64.wrap ((j : Int) + 1) = ((j + 1 : Nat) : Int) := by
        have := splitBy_count 10 src []
        have h2 : src.count 10 ≤ src.length := List.count_le_length
        rw [show splitBy 10 src [] = ls from hls.symm] at this
        rw [IntKind.wrap_i64]; omega
      have n32 : r3 ≠ r4 := b2
      have hdC : Disj H (C3 r2 r3 r4 v 0 0) := fun b hb => by
        simp only [C3, upd] at hb
        split at hb
        · rename_i e; rw [e]; exact hr4'
        · split at hb
          · rename_i e; rw [e]; exact hr3'
          · split at hb
            · rename_i e; rw [e]; exact hr2
            · exact absurd rfl hb
      have hHs : Sub H heap := (sub_over (Sub.refl H) hdC).trans hv.sub
      have hH5 : H r5 = none := hHs.lo hr5
      have hHs5 : Sub H (upd heap r5 (some (.cells [dI j] 3))) := hHs.new hr5 _
      have hHrs : H rs = none := hHs5.lo hrs
      have hst := atK_start hlt hok
      have hv5 : OwnJ (over H (C4 r2 r3 r4 r5 j v 0 0)) 27 4 ((allY (ls.take j) 1).map (·.1)).length (((allY (ls.take j) 1).map (·.1)).flatMap dTok) v (upd heap r5 (some (.cells [dI j] 3))) := by
        have := hv.frame hr5 (.cells [dI j] 3)
        rwa [upd_over] at this
      have hdC4 : Disj H (C4 r2 r3 r4 r5 j v 0 0) := hdC.hi hH5 _
      refine dwp_rangeY 83 [.optr rs 0] (lineB rs ls[j]) ((yieldsL ls[j]).map dY) (tokens_iter hG _ (by omega) rs) rfl (by kernel_rfl) (by intro z hz; obtain ⟨p, _, rfl⟩ := List.mem_map.1 hz; rfl) H (restX H (upd heap r5 (some (.cells [dI j] 3))) rs) (restX_over hHs5 hHrs) (restX_disj _ _ _)
        ((Disj.h0 H).hi hHrs _) (fun b hb => ?_)
        (fun k X => AtK ls j k ∧ T4 r2 r3 r4 r5 j (toksK ls j k) 0 0 X)
        (fun c X => c = .exit 0 ∧ ∃ (e : Int) (ts : List Tok), outY (allY ls 1) 0 = some (((j + 1 : Nat) : Int), e) ∧ e ≠ 0 ∧ T4 r2 r3 r4 r5 j ts ((j + 1 : Nat) : Int) e X) ⟨hst.1, v, ?_⟩ ?_ ?_ ?_
      · have : b ≠ rs := fun e => by rw [e] at hb; simp [restX] at hb
        simp [lineB, upd, h0, this]
      · rw [hst.2]; exact ownJ_rest hv5 hdC4 hrs
      · rintro k z Hi X hd hz ⟨hat, v, hv⟩
        rw [List.getElem?_map, Option.map_eq_some_iff] at hz
        obtain ⟨p, hp, rfl⟩ := hz
        have hnx := atK_next hat (p := p) (by rw [getD_at hlt]; exact hp)
        have x2 : X r2 = some (.cells [v] 24) := hv.keep (by simp [C4, C3, upd, a1, a2, b1, b2, b3, b4, n2, n3, n4])
        have x3 : X r3 = some (.cells [dI 0] 3) := hv.keep (by simp [C4, C3, upd, a1, a2, b1, b2, b3, b4, n2, n3, n4])
        have x4 : X r4 = some (.cells [dI 0] 33) := hv.keep (by simp [C4, C3, upd, a1, a2, b1, b2, b3, b4, n2, n3, n4])
        have x5 : X r5 = some (.cells [dI j] 3) := hv.keep (by simp [C4, C3, upd, a1, a2, b1, b2, b3, b4, n2, n3, n4])
        have o2 := over_x (Hi := Hi) x2
        have o3 := over_x (Hi := Hi) x3
        have o4 := over_x (Hi := Hi) x4
        have o5 := over_x (Hi := Hi) x5
        simp (disch := omega) only [go_sem, Nat.reduceEqDiff, Nat.reduceAdd, Nat.reduceMul, Nat.reduceSub, Nat.reduceLeDiff, ↓reduceIte, reduceCtorEq, Int.reduceAdd, Int.reduceSub, Int.reduceMul, Int.reduceNeg, Int.reduceToNat, List.reduceReplicate, String.reduceEq, dY, DVal.cells]
        intro r7 hr7; dsimp only at hr7
        obtain ⟨hH7, hX7⟩ := over_eq_none.1 hr7
        have m2 : r2 ≠ r7 := fun e => by rw [e, hX7] at x2; cases x2
        have m3 : r3 ≠ r7 := fun e => by rw [e, hX7] at x3; cases x3
        have m4 : r4 ≠ r7 := fun e => by rw [e, hX7] at x4; cases x4
        have m5 : r5 ≠ r7 := fun e => by rw [e, hX7] at x5; cases x5
        obtain ⟨t, ok⟩ := p
        have hrep : repl 1 [DVal.int IntKind.u8 0, DVal.int IntKind.i64 0, DVal.str [], DVal.int IntKind.i64 0] = [DVal.int IntKind.u8 0, DVal.int IntKind.i64 0, DVal.str [], DVal.int IntKind.i64 0] := rfl
        have hsp : splice (dTok t) 1 [dI ((j + 1 : Nat) : Int)] = dTok { t with line := ((j + 1 : Nat) : Int) } := rfl
        have herr : ∀ e : Int, OwnJ (C4 r2 r3 r4 r5 j v ((j + 1 : Nat) : Int) e) 27 4 (toksK ls j k).length ((toksK ls j k).flatMap dTok) v (upd (upd (upd X r7 (some (.cells (dTok t) 27))) r3 (some (.cells [dI ((j + 1 : Nat) : Int)] 3))) r4 (some (.cells [dI e] 33))) := fun e => by
          have := ((hv.new hX7 (some (.cells (dTok t) 27))).set (r := r3) (by simp [C4, C3, upd, a1, a2, b1, b2, b3, b4, n2, n3, n4]) (.cells [dI ((j + 1 : Nat) : Int)] 3)).set (r := r4) (by simp [C4, C3, upd, a1, a2, b1, b2, b3, b4, n2, n3, n4]) (.cells [dI e] 33)
          rw [C4_set n2 n3 n4 a2 b4 b2] at this
          exact this
        have hdj : ∀ o7 o3 o4 : Option DObj, Disj Hi (upd (upd (upd X r7 o7) r3 o3) r4 o4) := fun o7 o3 o4 => ((hd.hi hH7 o7).hi (hd r3 (by rw [x3]; simp)) o3).hi (hd r4 (by rw [x4]; simp)) o4
        cases ok with
        | false =>
          simp (disch := omega) only [go_sem, Nat.reduceEqDiff, Nat.reduceAdd, Nat.reduceMul, Nat.reduceSub, Nat.reduceLeDiff, ↓reduceIte, reduceCtorEq, Int.reduceAdd, Int.reduceSub, Int.reduceMul, Int.reduceNeg, Int.reduceToNat, List.reduceReplicate, String.reduceEq, e2, e3, e4, m2, m3, m4, m5, o2, o3, o4, o5, a1, a2, b1, b2, b3, b4, dTok_len, dTok_t4, dTok_d4, dTok_one, List.append_nil, hw1]
          exact ⟨_, rfl, hdj _ _ _, 20, _, hnx.1 rfl, by decide, v, herr 20⟩
        | true =>
          by_cases h8 : (toksK ls j k).length = 8192
          · have h8' : ((toksK ls j k).length : Int) = 8192 := by omega
            simp (disch := omega) only [go_sem, Nat.reduceEqDiff, Nat.reduceAdd, Nat.reduceMul, Nat.reduceSub, Nat.reduceLeDiff, ↓reduceIte, reduceCtorEq, Int.reduceAdd, Int.reduceSub, Int.reduceMul, Int.reduceNeg, Int.reduceToNat, List.reduceReplicate, String.reduceEq, e2, e3, e4, m2, m3, m4, m5, o2, o3, o4, o5, a1, a2, b1, b2, b3, b4, dTok_len, dTok_t4, dTok_d4, dTok_one, List.append_nil, hv.dLen, h8', hw1]
            exact ⟨_, rfl, hdj _ _ _, 3, _, hnx.2.1 rfl h8, by decide, v, herr 3⟩
          · have h8' : ¬ ((toksK ls j k).length : Int) = 8192 := by omega
            simp (disch := omega) only [go_sem, Nat.reduceEqDiff, Nat.reduceAdd, Nat.reduceMul, Nat.reduceSub, Nat.reduceLeDiff, ↓reduceIte, reduceCtorEq, Int.reduceAdd, Int.reduceSub, Int.reduceMul, Int.reduceNeg, Int.reduceToNat, List.reduceReplicate, String.reduceEq, e2, e3, e4, m2, m3, m4, m5, o2, o3, o4, o5, a1, a2, b1, b2, b3, b4, dTok_len, dTok_t4, dTok_d4, dTok_one, List.append_nil, hv.dLen, h8', hw1, hsp]
            rw [hrep]
            simp (disch := omega) only [go_sem, Nat.reduceEqDiff, Nat.reduceAdd, Nat.reduceMul, Nat.reduceSub, Nat.reduceLeDiff, ↓reduceIte, reduceCtorEq, Int.reduceAdd, Int.reduceSub, Int.reduceMul, Int.reduceNeg, Int.reduceToNat, List.reduceReplicate, String.reduceEq, List.length_cons, List.length_nil, List.drop_succ_cons, List.drop_zero, List.append_nil]
            intro ns hns; dsimp only at hns
            have hvf := ((hv.lift hd).frame hr7 (.cells (dTok { t with line := ((j + 1 : Nat) : Int) }) 27)).new (by rw [upd_over]; exact hns) (some (.cells (dTok { t with line := ((j + 1 : Nat) : Int) }) 27))
            have hns2 := over_eq_none.1 hns
            have m2' : r2 ≠ ns := fun e => by
              have := hns2.2
              rw [← e] at this; simp only [upd, if_neg m2] at this; rw [x2] at this; cases this
            rw [upd_over Hi X, upd_over Hi (upd X r7 _)] at hvf
            simp (disch := omega) only [go_sem, Nat.reduceEqDiff, Nat.reduceAdd, Nat.reduceMul, Nat.reduceSub, Nat.reduceLeDiff, ↓reduceIte, reduceCtorEq, Int.reduceAdd, Int.reduceSub, Int.reduceMul, Int.reduceNeg, Int.reduceToNat, List.reduceReplicate, String.reduceEq, e2, e3, e4, m2, m3, m4, m5, m2', o2, o3, o4, o5, a1, a2, b1, b2, b3, b4, dTok_len, dTok_t4, dTok_d4, dTok_one, List.append_nil]
            have hl8 : (toksK ls j k).length ≤ 8192 := by
              have := hat.ok.len
              rw [toksK, List.length_map]; exact this
            refine OwnJ.append (m := 1) hvf rfl (by omega) fun v2 H3 hv3 => ?_
            have y2 : upd (over Hi (C4 r2 r3 r4 r5 j v 0 0)) r7 (some (.cells (dTok { t with line := ((j + 1 : Nat) : Int) }) 27)) r2 = some (.cells [v] 24) := by
              rw [upd, if_neg m2]; exact over_x (by simp [C4, C3, upd, a1, a2, b1, b2, b3, b4, n2, n3, n4])
            have z2 := hv3.keep y2
            obtain ⟨c3, c4⟩ := hv3.cell1
            simp (disch := omega) only [go_sem, Nat.reduceEqDiff, Nat.reduceAdd, Nat.reduceMul, Nat.reduceSub, Nat.reduceLeDiff, ↓reduceIte, reduceCtorEq, Int.reduceAdd, Int.reduceSub, Int.reduceMul, Int.reduceNeg, Int.reduceToNat, List.reduceReplicate, String.reduceEq, e2, z2, c3, c4, List.length_cons, List.length_nil, List.drop_succ_cons, List.drop_zero, List.append_nil, List.all_cons, List.all_nil]
            have hC4s : Sub (C4 r2 r3 r4 r5 j v 0 0) X := hv.sub
            have hdc := disj_sub hd hC4s
            have hB : Sub Hi (upd (over Hi (C4 r2 r3 r4 r5 j v 0 0)) r7 (some (.cells (dTok { t with line := ((j + 1 : Nat) : Int) }) 27))) := (sub_over (Sub.refl Hi) hdc).up hH7 _
            have hC : Sub (C4 r2 r3 r4 r5 j v 0 0) (upd (over Hi (C4 r2 r3 r4 r5 j v 0 0)) r7 (some (.cells (dTok { t with line := ((j + 1 : Nat) : Int) }) 27))) := fun b o hb => by
              have : b ≠ r7 := fun e => by rw [e] at hb; rw [hC4s _ _ hb] at hX7; cases hX7
              simp only [upd, if_neg this]; exact over_x hb
            obtain ⟨X', g1, g2, g3⟩ := ownJ_cell hB hC hdc hv3 (r := r2) (by simp [C4, C3, upd, a1, a2, b1, b2, b3, b4, n2, n3, n4]) (.cells [v2] 24)
            rw [C4_v n2 a2 b4] at g3
            obtain ⟨q1, q2⟩ := hnx.2.2 rfl h8
            refine ⟨X', g1, g2, q1, v2, ?_⟩
            rw [q2, List.length_append, List.flatMap_append]
            simpa using g3
      · rintro X hd ⟨hat, v, hv⟩
        simp (disch := omega) only [go_sem, Nat.reduceEqDiff, Nat.reduceAdd, Nat.reduceMul, Nat.reduceSub, Nat.reduceLeDiff, ↓reduceIte, reduceCtorEq, Int.reduceAdd, Int.reduceSub, Int.reduceMul, Int.reduceNeg, Int.reduceToNat, List.reduceReplicate, String.reduceEq, e2, e3, e4, e13, e14, e15]
        rw [List.length_map, ← getD_at hlt] at hat hv
        obtain ⟨q1, q2⟩ := atK_line hat
        refine ⟨j + 1, _, GhostS.refl _, (hI _ _ _).2 ?_, by omega⟩
        simp (disch := omega) only [go_sem, Nat.reduceEqDiff, Nat.reduceAdd, Nat.reduceMul, Nat.reduceSub, Nat.reduceLeDiff, ↓reduceIte, reduceCtorEq, Int.reduceAdd, Int.reduceSub, Int.reduceMul, Int.reduceNeg, Int.reduceToNat, List.reduceReplicate, String.reduceEq, e2, e3, e4, e13, e14, e15, hw1]
        (repeat' apply And.intro) <;> (try first | rfl | assumption | omega)
        · rw [q2] at hv
          have hsub : Sub (C3 r2 r3 r4 v 0 0) (C4 r2 r3 r4 r5 j v 0 0) := (Sub.refl _).up (by simp [C3, upd, h0, Ne.symm n2, Ne.symm n3, Ne.symm n4]) _
          refine ⟨v, (hv.lift hd).less fun b o hb => ?_⟩
          cases ec : C3 r2 r3 r4 v 0 0 b with
          | some o2 =>
            rw [over_x ec] at hb
            rw [over_x (hsub b o2 ec)]; exact hb
          | none =>
            rw [over_hi ec] at hb
            have : b ≠ r5 := fun e => by rw [e, hH5] at hb; cases hb
            rw [over_hi (by simp only [C4, upd, if_neg this]; exact ec)]; exact hb
      · rintro c X hd ⟨rfl, e, ts, hout, hne, v, hv⟩
        have x2 : X r2 = some (.cells [v] 24) := hv.keep (by simp [C4, C3, upd, a1, a2, b1, b2, b3, b4, n2, n3, n4])
        have x3 : X r3 = some (.cells [dI ((j + 1 : Nat) : Int)] 3) := hv.keep (by simp [C4, C3, upd, a1, a2, b1, b2, b3, b4, n2, n3, n4])
        have x4 : X r4 = some (.cells [dI e] 33) := hv.keep (by simp [C4, C3, upd, a1, a2, b1, b2, b3, b4, n2, n3, n4])
        have o2 := over_x (Hi := H) x2
        have o3 := over_x (Hi := H) x3
        have o4 := over_x (Hi := H) x4
        simp (disch := omega) only [go_sem, Nat.reduceEqDiff, Nat.reduceAdd, Nat.reduceMul, Nat.reduceSub, Nat.reduceLeDiff, ↓reduceIte, reduceCtorEq, Int.reduceAdd, Int.reduceSub, Int.reduceMul, Int.reduceNeg, Int.reduceToNat, List.reduceReplicate, String.reduceEq, DJump, e2, e3, e4, o2, o3, o4, hne]
        refine dwp_draws (by kernel_rfl) (.take 0 (.take 1 (.go 2 [1, 0] (.go 3 [1] (.go 4 [] .done))))) (by kernel_rfl) ?_
        simp (disch := omega) only [go_sem, Nat.reduceEqDiff, Nat.reduceAdd, Nat.reduceMul, Nat.reduceSub, Nat.reduceLeDiff, ↓reduceIte, reduceCtorEq, Int.reduceAdd, Int.reduceSub, Int.reduceMul, Int.reduceNeg, Int.reduceToNat, List.reduceReplicate, String.reduceEq, e2, e3, e4, o2, o3, o4, a1, a2, b1, b2, b3, b4, List.append_nil]
        exact DFin.refl ⟨.nilSlice, ([], ((j + 1 : Nat) : Int), e), tokens_err (s := src) (by omega) (by rw [← hls]; exact hout), rfl, OwnJ.nil _ _ (sub_over (Sub.refl H) (((hd.hi hr2 _).hi hr3' _).hi hr4' _))⟩
    · have : j = ls.length := by omega
      subst this
      obtain ⟨c1, c2⟩ := hv.cell1
      simp (disch := omega) only [go_sem, Nat.reduceEqDiff, Nat.reduceAdd, Nat.reduceMul, Nat.reduceSub, Nat.reduceLeDiff, ↓reduceIte, reduceCtorEq, Int.reduceAdd, Int.reduceSub, Int.reduceMul, Int.reduceNeg, Int.reduceToNat, List.reduceReplicate, String.reduceEq, e2, e3, e4, e13, e14, e15, k2, k3, k4, a1, a2, b1, b2, b3, b4, c1, c2, List.length_cons, List.length_nil, List.drop_succ_cons, List.drop_zero, List.append_nil, List.all_cons, List.all_nil]
      have hdC : Disj H (C3 r2 r3 r4 v 0 0) := fun b hb => by
        simp only [C3, upd] at hb
        split at hb
        · rename_i e; rw [e]; exact hr4'
        · split at hb
          · rename_i e; rw [e]; exact hr3'
          · split at hb
            · rename_i e; rw [e]; exact hr2
            · exact absurd rfl hb
      have hx2 : over H (C3 r2 r3 r4 v 0 0) r2 ≠ none := by rw [over_x (o := .cells [v] 24) (by simp [C3, upd, a1, a2, b1, b2, b3, b4])]; simp
      have hx3 : over H (C3 r2 r3 r4 v 0 0) r3 ≠ none := by rw [over_x (o := .cells [dI 0] 3) (by simp [C3, upd, a1, a2, b1, b2, b3, b4])]; simp
      have hx4 : over H (C3 r2 r3 r4 v 0 0) r4 ≠ none := by rw [over_x (o := .cells [dI 0] 33) (by simp [C3, upd, a1, a2, b1, b2, b3, b4])]; simp
      have hvs := ((hv.set hx2 (.cells [v] 24)).set (r := r3) (by simp only [upd, if_neg a1]; exact hx3) (.cells [dI 0] 3)).set (r := r4) (by simp only [upd, if_neg b1, if_neg b3]; exact hx4) (.cells [dI 0] 33)
      rw [upd_over, upd_over, upd_over] at hvs
      have hvh := hvs.less (sub_over (Sub.refl H) (((hdC.hi hr2 _).hi hr3' _).hi hr4' _))
      rw [List.take_length] at hok hvh
      rw [hls] at hok hvh
      exact DFin.refl ⟨v, _, tokens_end (s := src) (by omega) hok, rfl, hvh⟩
theorem lexTokens_spec (hG : GX G) (H : DHeap) (src : List UInt8) (hs : src.length ≤ 1000000000) : DCalls Tryz.prog G 29 [.str src] H (DRet (.tuple [dToks (tokensL src).1, dI (tokensL src).2.1, dI (tokensL src).2.2]) H) :=
  (lexTokensO_spec hG H src hs).ghost fun x H' ⟨v, p, h1, h2, h3⟩ => ⟨_, _, H, h2, GhostE.tuple1' (pre := []) h3.ghost rfl rfl, by rw [h1]; rfl, rfl⟩
end
end Go.Dl

-- strings.Builder at the data level: copyCheck, WriteString, String.
namespace Go.Proofs
open Go.Shelf Go.RowKit
def Tryz.lays240_ren : Go.Shelf.Ren := ⟨fun | 240 => 82 | 276 => 108 | n => n, fun | 0 => 0 | 4 => 4 | 9 => 9 | 20 => 20 | 70 => 72 | 72 => 74 | 164 => 116 | 37 => 54 | 127 => 95 | 3 => 3 | 5 => 5 | n => n, fun | n => n⟩
theorem Tryz.lays240 : Go.Proofs.Lays.n240 Tryz.prog Tryz.lays240_ren := {
  mixed := by kernel_rfl
  f240 := Tryz.func82.trans (congrArg some (by kernel_rfl))
  f276 := Tryz.func108.trans (congrArg some (by kernel_rfl))
  t0 := Tryz.underlying0
  a0 := Tryz.isAgg0
  z0 := Tryz.sizeOf0
  v0 := Tryz.zeroValue0
  t4 := Tryz.underlying4
  a4 := Tryz.isAgg4
  z4 := Tryz.sizeOf4
  v4 := Tryz.zeroValue4
  t9 := Tryz.underlying9
  a9 := Tryz.isAgg9
  z9 := Tryz.sizeOf9
  v9 := Tryz.zeroValue9
  t20 := Tryz.underlying20
  a20 := Tryz.isAgg20
  z20 := Tryz.sizeOf20
  v20 := Tryz.zeroValue20
  t70 := Tryz.underlying72
  a70 := Tryz.isAgg72
  z70 := Tryz.sizeOf72
  v70 := Tryz.zeroValue72
  t72 := Tryz.underlying74
  a72 := Tryz.isAgg74
  z72 := Tryz.sizeOf74
  v72 := Tryz.zeroValue74
  t164 := Tryz.underlying116
  a164 := Tryz.isAgg116
  z164 := Tryz.sizeOf116
  v164 := Tryz.zeroValue116 }
theorem Tryz.X72_240 : Builder.X72 Tryz.prog Tryz.lays240_ren := { sizeBuilder := by kernel_rfl, liesBuilder := by kernel_rfl }

section
variable {P : Program} {ρ : Ren}
set_option maxHeartbeats 2000000 in
set_option maxRecDepth 100000 in
/-- (*strings.Builder).String of a buffer with at least one byte: the bytes read are frozen, nothing else turns. -/
theorem builder_string_at (L : Lays.n169 P ρ) (X : Builder.Extra P ρ) (b g cap cells : Nat) (l : List UInt8) (w : World) (h0 : l ≠ []) (hl63 : l.length ≤ 9223372036854775807) (hle : l.length ≤ cap) (hc1 : w.cell? ⟨b, 1, none⟩ = some (.slice (some ⟨g, 0, none⟩) l.length cap))
    (hsh : w.shape? g = some (ρ.t 5, cells)) (hn : l.length ≤ cells) (hcell : ∀ j x, l[j]? = some x → w.cell? ((⟨g, 0, none⟩ : Addr).add j) = some (.int .u8 x.toNat)) :
    Calls P (ρ.f 169) #[.pointer (some ⟨b, 0, none⟩)] w fun e w' => e = .returned (.string ⟨l.toArray⟩) ∧ w' = w.drew.freeze ⟨g, 0, none⟩ l.length := by
  have hl0 : l.length ≠ 0 := by simpa using h0
  have c1 : w.drew.cell? ⟨b, 1, none⟩ = some (.slice (some ⟨g, 0, none⟩) l.length cap) := hc1
  have hSD : (Builtin.unsafeSliceData_ #[(ρ.t 37)] (ρ.t 127) #[.slice (some ⟨g, 0, none⟩) l.length cap]).run P w.drew = .ok (.pointer (some ⟨g, 0, none⟩)) w.drew :=
    Lib.run_unsafeSliceData_row _ _ _ _ _ _ (by omega)
  have hUS : (Builtin.unsafeString_ #[(ρ.t 127), (ρ.t 3)] (ρ.t 9) #[.pointer (some ⟨g, 0, none⟩), .int .i64 l.length]).run P w.drew = .ok (.string ⟨l.toArray⟩) (w.drew.freeze ⟨g, 0, none⟩ l.length) :=
    Lib.run_unsafeString_row w.drew (ρ.t 127) (ρ.t 3) (ρ.t 9) (ρ.t 5) L.t127 X.cellsByte g cells hsh l h0 hn hl63 hcell
  have mixed := L.mixed
  have t72 := L.t72; have a72 := L.a72; have z72 := L.z72; have v72 := L.v72; have u72 := run_underlying L.t72
  have t70 := L.t70; have a70 := L.a70; have z70 := L.z70; have v70 := L.v70; have u70 := run_underlying L.t70
  have t37 := L.t37; have a37 := L.a37; have z37 := L.z37; have v37 := L.v37; have u37 := run_underlying L.t37
  have t127 := L.t127; have a127 := L.a127; have z127 := L.z127; have v127 := L.v127; have u127 := run_underlying L.t127
  have t3 := L.t3; have a3 := L.a3; have z3 := L.z3; have v3 := L.v3; have u3 := run_underlying L.t3
  have t9 := L.t9; have a9 := L.a9; have z9 := L.z9; have v9 := L.v9; have u9 := run_underlying L.t9
  have t5 := X.t5; have a5 := X.a5; have z5 := X.z5; have v5 := X.v5; have u5 := run_underlying X.t5
  go_enter L.f169, Body.n169_ntmps ρ
  go_wp2
  go_region_o
  all_goals (go_wp2; go_ret; exact ⟨rfl, rfl⟩)
set_option maxHeartbeats 2000000 in
set_option maxRecDepth 100000 in
/-- .. of a buffer that is nil. -/
theorem builder_string_nil (L : Lays.n169 P ρ) (X : Builder.Extra P ρ) (b : Nat) (w : World) (hc1 : w.cell? ⟨b, 1, none⟩ = some (.slice none 0 0)) :
    Calls P (ρ.f 169) #[.pointer (some ⟨b, 0, none⟩)] w fun e w' => e = .returned (.string ⟨#[]⟩) ∧ w' = w.drew := by
  have hUS := Any.unsafeString_none L X
  have c1 : w.drew.cell? ⟨b, 1, none⟩ = some (.slice none 0 0) := hc1
  have hSD : (Builtin.unsafeSliceData_ #[(ρ.t 37)] (ρ.t 127) #[.slice none 0 0]).run P w.drew = .ok (.pointer none) w.drew := rfl
  have mixed := L.mixed
  have t72 := L.t72; have a72 := L.a72; have z72 := L.z72; have v72 := L.v72; have u72 := run_underlying L.t72
  have t70 := L.t70; have a70 := L.a70; have z70 := L.z70; have v70 := L.v70; have u70 := run_underlying L.t70
  have t37 := L.t37; have a37 := L.a37; have z37 := L.z37; have v37 := L.v37; have u37 := run_underlying L.t37
  have t127 := L.t127; have a127 := L.a127; have z127 := L.z127; have v127 := L.v127; have u127 := run_underlying L.t127
  have t3 := L.t3; have a3 := L.a3; have z3 := L.z3; have v3 := L.v3; have u3 := run_underlying L.t3
  have t9 := L.t9; have a9 := L.a9; have z9 := L.z9; have v9 := L.v9; have u9 := run_underlying L.t9
  have t5 := X.t5; have a5 := X.a5; have z5 := X.z5; have v5 := X.v5; have u5 := run_underlying X.t5
  go_enter L.f169, Body.n169_ntmps ρ
  go_wp2
  go_region_o
  all_goals (go_wp2; go_ret; exact ⟨rfl, rfl⟩)
end
theorem rowAt_more {P : Program} {fits : TypeId → Bool} {d : Nat} {e : TypeId} {count : Nat} (h : 1 ≤ count) (hr : rowAt P fits (d + 1) e 1 0 1 = true) : rowAt P fits (d + 1) e count 0 1 = true := by
  unfold rowAt at hr ⊢
  simp only [Nat.zero_div, Nat.zero_mod, Nat.zero_add] at hr ⊢
  split at hr
  · cases hr
  · rename_i hs
    rw [if_neg hs]
    have h1 : decide (1 ≤ count) = true := decide_eq_true h
    have h2 : decide (0 < count) = true := decide_eq_true (by omega)
    rw [h1, h2]
    exact hr
theorem liesAt_more {P : Program} {d : Nat} {e : TypeId} {count : Nat} (h : 1 ≤ count) (hd : P.depth = d + 1) (hr : rowAt P (sameLayout P P.depth · e) P.depth e 1 0 1 = true) : liesAt P P.depth e count 0 e 1 = true := by
  have : rowAt P (sameLayout P P.depth · e) P.depth e count 0 1 = true := by
    generalize hf : (sameLayout P P.depth · e) = fits at hr ⊢
    rw [hd] at hr ⊢
    exact rowAt_more h hr
  conv => lhs; rw [hd]
  unfold liesAt
  rw [this]; rfl
section
variable {P : Program} {ρ : Ren}
set_option maxHeartbeats 2000000 in
set_option maxRecDepth 100000 in
/-- copyCheck at a fresh builder. -/
theorem copyCheck_fresh_at (L : Lays.n240 P ρ) (X : Builder.X72 P ρ) (b n : Nat) (w : World) (h0 : w.cell? ⟨b, 0, none⟩ = some (.pointer none)) (hsh : w.shape? b = some ((ρ.t 72), n)) (hn : 0 < n)
    (hlies : liesAt P P.depth (ρ.t 72) (n / P.cellsOf (ρ.t 72)) 0 (ρ.t 72) 1 = true) (hfz : w.frozen? ⟨b, 0, none⟩ = false) :
    Calls P (ρ.f 240) #[.pointer (some ⟨b, 0, none⟩)] w fun e w' => e = .returned (.tuple #[]) ∧ w' = w.setCell ⟨b, 0, none⟩ (.pointer (some ⟨b, 0, none⟩)) := by
  obtain ⟨j, hj, hjs⟩ := Option.map_eq_some_iff.1 X.sizeBuilder
  have mixed := L.mixed
  have t72 := L.t72; have a72 := L.a72; have z72 := L.z72; have v72 := L.v72; have u72 := run_underlying L.t72
  have t70 := L.t70; have a70 := L.a70; have z70 := L.z70; have v70 := L.v70; have u70 := run_underlying L.t70
  have t9 := L.t9; have a9 := L.a9; have z9 := L.z9; have v9 := L.v9; have u9 := run_underlying L.t9
  have t4 := L.t4; have a4 := L.a4; have z4 := L.z4; have v4 := L.v4; have u4 := run_underlying L.t4
  have t164 := L.t164; have a164 := L.a164; have z164 := L.z164; have v164 := L.v164; have u164 := run_underlying L.t164
  go_enter L.f240, Body.n240_ntmps ρ
  go_wp2
  rw [Lib.run_to_unsafe w ⟨b, 0, none⟩ L.t70 L.t164 hj (by rw [hjs]; decide) hsh hn]
  simp only [Result.andThen]
  rw [Oper.upon_value]
  go_wp2
  rw [run_callFunc_extern L.f276 (by kernel_rfl) (by kernel_rfl) (by kernel_rfl) (e := Extern.AbiNoEscape.same) (by kernel_rfl)]
  rw [Lib.run_noEscape]
  simp only [Result.andThen]
  rw [Oper.upon_value]
  go_wp2
  rw [Lib.run_from_unsafe w ⟨b, 0, none⟩ L.t164 L.t70 hj hsh hlies]
  simp only [Result.andThen]
  rw [Oper.upon_value]
  go_wp2
  go_end0
  exact ⟨rfl, rfl⟩
end
end Go.Proofs


-- strings.Builder at the data level.
namespace Go.Dl
open Go Go.Proofs Go.RowKit
set_option maxRecDepth 10000
attribute [go_sem] List.getElem?_toArray List.getElem?_cons_zero List.getElem?_cons_succ List.append_eq

/-- The bytes of a string as cells. -/
def dBy (l : List UInt8) : List DVal := l.map fun b => .int .u8 b.toNat
theorem dBy_length (l : List UInt8) : (dBy l).length = l.length := by simp [dBy]
theorem dBy_append (l m : List UInt8) : dBy (l ++ m) = dBy l ++ dBy m := by simp [dBy]
theorem dBy_one (l : List UInt8) : (dBy l).all (fun d => d.one) = true := by simp [dBy, DVal.one]
theorem str_dBy (l : List UInt8) : (l.map fun b : UInt8 => DVal.int .u8 b.toNat) = dBy l := rfl

theorem run_store1 {P : Program} {w : World} {r off : Nat} {c : Array Value} {e : TypeId} {fz : Nat × Nat} {x : Value} (hc : w.heap[r]? = some (.cells c e fz)) (hi : off < c.size) (h1 : x.oneCell' = true) (hf : ∀ j, j < c.size → ¬ (fz.1 ≤ j ∧ j < fz.2)) :
    (storeCells ⟨r, off, none⟩ [x] 0).run P w = .ok () (w.setCell ⟨r, off, none⟩ x) := by
  have hcell : w.cell? ⟨r, off, none⟩ = some c[off] := by simp [World.cell?, hc, hi]
  have hfr : w.frozen? ⟨r, off, none⟩ = false := by
    have := hf off hi
    obtain ⟨lo, hi'⟩ := fz
    simp [World.frozen?, hc]
    intro h2
    have := fun h3 => this ⟨h2, h3⟩
    simp at this; omega
  simp only [storeCells, Sem.run_bind, add_lit, Nat.add_zero, run_store P w _ x _ h1, hcell, hfr]
  rfl
theorem setCell_own {P : Program} {w : World} {H : DHeap} (hH : SimHeap w H) {r off : Nat} {cs : List DVal} {d : DVal} {e : TypeId} (hr : H r = some (.cells cs e)) {x : Value} (hx : Rel w H d x) (h1 : d.one = true) (hle : off < cs.length) :
    SimHeap (w.setCell ⟨r, off, none⟩ x) (upd H r (some (.cells (splice cs off [d]) e))) ∧ Ext H w (upd H r (some (.cells (splice cs off [d]) e))) (w.setCell ⟨r, off, none⟩ x) := by
  have hv : RelL w H [d] [x] := by simp only [RelL]; exact ⟨x, [], rfl, hx, rfl⟩
  have ha : [d].all (·.one) = true := by simp [h1]
  obtain ⟨w', hrun, k1, k2⟩ := store_own (P := P) (off := off) hH hr hv ha (by simp; omega)
  obtain ⟨xs, c, fz, g1, g2, g3, g4⟩ := hH r _ hr
  have hlx := g3.length
  have hsz : xs.length ≤ c.size := by obtain ⟨t, ht⟩ := g2; rw [← Array.length_toList, ← ht]; simp
  have := run_store1 (P := P) (x := x) g1 (off := off) (by omega) (relL_one hv ha x (by simp)) g4
  rw [hrun] at this
  cases this
  exact ⟨k1, k2⟩

variable {G : Nat → DVal} {H : DHeap}
theorem lies_builder : Go.rowAt Tryz.prog (Go.sameLayout Tryz.prog Tryz.prog.depth · 74) Tryz.prog.depth 74 1 0 1 = true := by kernel_rfl
theorem cells_builder : Tryz.prog.cellsOf 74 = 2 := by kernel_rfl
theorem depth_builder : ∃ d, Tryz.prog.depth = d + 1 := ⟨Tryz.prog.depth - 1, by kernel_rfl⟩
theorem copyCheck_fresh {b : Nat} {v : DVal} (hr : H b = some (.cells [.nilPtr, v] 74)) :
    DCalls Tryz.prog G 82 [.optr b 0] H (fun e H' => e = .ret (.tuple []) ∧ H' = upd H b (some (.cells [.optr b 0, v] 74))) := by
  refine ⟨Tryz.call82, fun vs w hv hH hG => ?_⟩
  simp only [RelL, Rel] at hv
  obtain ⟨y, ys, rfl, rfl, rfl⟩ := hv
  obtain ⟨xs, c, fz, g1, g2, g3, g4⟩ := hH b _ hr
  simp only [RelL, Rel] at g3
  obtain ⟨y0, ys0, rfl, rfl, y1, ys1, rfl, g5, rfl⟩ := g3
  have hsz : 2 ≤ c.size := by obtain ⟨t, ht⟩ := g2; rw [← Array.length_toList, ← ht]; simp
  have hc0 : w.cell? ⟨b, 0, none⟩ = some (.pointer none) := by
    obtain ⟨t, ht⟩ := g2
    have : c.toList[0]? = some (.pointer none) := by rw [← ht]; rfl
    simp [World.cell?, g1]; simpa using this
  have hf0 : w.frozen? ⟨b, 0, none⟩ = false := by
    have := g4 0 (by omega)
    obtain ⟨lo, hi'⟩ := fz
    simp [World.frozen?, g1]
    intro h2
    have := fun h3 => this ⟨by omega, h3⟩
    simp at this; omega
  obtain ⟨d, hd⟩ := depth_builder
  have hl : liesAt Tryz.prog Tryz.prog.depth 74 (c.size / Tryz.prog.cellsOf 74) 0 74 1 = true :=
    liesAt_more (by rw [cells_builder]; omega) hd lies_builder
  refine (copyCheck_fresh_at Tryz.lays240 Tryz.X72_240 b c.size w hc0 (by simp [World.shape?, g1]; rfl) (by omega) hl hf0).mono ?_
  rintro e w' ⟨rfl, rfl⟩
  obtain ⟨k1, k2⟩ := setCell_own (P := Tryz.prog) hH hr (off := 0) (d := .optr b 0) (x := .pointer (some ⟨b, 0, none⟩)) (by simp [Rel]) rfl (by simp)
  exact ⟨_, _, ⟨rfl, rfl⟩, .ret _ _ (by simp [Rel, RelL]), k1, k2⟩
theorem copyCheck_used {b : Nat} {v : DVal} (hr : H b = some (.cells [.optr b 0, v] 74)) :
    DCalls Tryz.prog G 82 [.optr b 0] H (DRet (.tuple []) H) := by
  refine ⟨Tryz.call82, fun vs w hv hH hG => ?_⟩
  simp only [RelL, Rel] at hv
  obtain ⟨y, ys, rfl, rfl, rfl⟩ := hv
  obtain ⟨xs, g3, g4⟩ := hH.holds hr
  simp only [RelL, Rel] at g3
  obtain ⟨y0, ys0, rfl, rfl, y1, ys1, rfl, g5, rfl⟩ := g3
  refine (Any.Builder_copyCheck_used Tryz.lays240 Tryz.X72_240 b w (by simpa using g4 0 _ rfl)).mono ?_
  rintro e w' ⟨rfl, rfl⟩
  exact ⟨_, _, ⟨rfl, rfl⟩, .ret _ _ (by simp [Rel, RelL]), hH, Ext.refl _ _⟩

section
variable {H' : DHeap} {e : TypeId} {size n : Nat} {cs : List DVal} {v : DVal}
theorem OwnJ.rebl {q : Nat} {o o' : DObj} (h : OwnJ (upd H q (some o)) e size n cs v H') : OwnJ (upd H q (some o')) e size n cs v (upd H' q (some o')) := by
  have hs : ∀ {H'' : DHeap}, Sub (upd H q (some o)) H'' → Sub (upd H q (some o')) (upd H'' q (some o')) := fun k r x hx => by
    by_cases e : r = q
    · subst e; rw [upd_same] at hx ⊢; exact hx
    · simp only [upd, if_neg e] at hx ⊢; exact k r x (by simp only [upd, if_neg e]; exact hx)
  rcases h with ⟨a, b, c, d⟩ | ⟨r, a, b, c, d, f⟩
  · exact .inl ⟨a, b, c, hs d⟩
  · have : r ≠ q := fun e => by subst e; rw [upd_same] at a; cases a
    exact .inr ⟨r, by simp only [upd, if_neg this] at a ⊢; exact a, b, c, by simp only [upd, if_neg this]; exact d, hs f⟩
end

/-- A builder in block b, over the memory H, with the bytes l. -/
structure Bld (H : DHeap) (b : Nat) (l : List UInt8) (H' : DHeap) : Prop where
  no : H b = none
  has : ∃ p v, (p = .nilPtr ∨ p = .optr b 0) ∧ (l = [] → v = .nilSlice) ∧ OwnJ (upd H b (some (.cells [p, v] 74))) 5 1 l.length (dBy l) v H'
theorem Bld.new {b : Nat} (h : H b = none) : Bld H b [] (upd H b (some (.cells [.nilPtr, .nilSlice] 74))) :=
  ⟨h, .nilPtr, .nilSlice, .inl rfl, fun _ => rfl, OwnJ.nil _ _ (Sub.refl _)⟩
theorem Bld.sub {H' : DHeap} {b : Nat} {l : List UInt8} (h : Bld H b l H') : Sub H H' := by
  obtain ⟨h1, p, v, _, _, h4⟩ := h
  exact ((Sub.refl H).up h1 _).trans h4.sub
theorem Bld.more {H' H2 : DHeap} {b : Nat} {l : List UInt8} (h : Bld H b l H') (k : Sub H' H2) : Bld H b l H2 := by
  obtain ⟨h1, p, v, h2, h3, h4⟩ := h
  exact ⟨h1, p, v, h2, h3, h4.more k⟩
theorem Bld.less {H' H1 : DHeap} {b : Nat} {l : List UInt8} (h : Bld H b l H') (k : Sub H1 H) : Bld H1 b l H' := by
  obtain ⟨h1, p, v, h2, h3, h4⟩ := h
  exact ⟨k.lo h1, p, v, h2, h3, h4.less (k.both _ _)⟩
theorem Bld.frame {H' : DHeap} {b r : Nat} {l : List UInt8} (h : Bld H b l H') (hr : H' r = none) (o : DObj) : Bld (upd H r (some o)) b l (upd H' r (some o)) := by
  obtain ⟨h1, p, v, h2, h3, h4⟩ := h
  have hb : b ≠ r := fun e => by
    have := h4.keep (r := b) (upd_same _ _ _)
    rw [e, hr] at this; cases this
  refine ⟨by simp [upd, hb, h1], p, v, h2, h3, ?_⟩
  have := h4.frame hr o
  rwa [upd_swap hb.symm] at this

theorem writeString_spec {H0 : DHeap} {b : Nat} {l : List UInt8} (s : List UInt8) (h : Bld H b l H0) (hl : l.length + s.length ≤ 35184372088832) :
    DCalls Tryz.prog G 59 [.optr b 0, .str s] H0 (fun e H1 => e = .ret (.tuple [dI s.length, .nilIface]) ∧ Bld H b (l ++ s) H1) := by
  obtain ⟨h1, p, v, hp, hnil, hv⟩ := h
  have hb0 := hv.keep (r := b) (upd_same _ _ _)
  have hlast : ∀ H2 v2 p', (p' = .nilPtr ∨ p' = .optr b 0) → (l ++ s = [] → v2 = .nilSlice) → OwnJ (upd H b (some (.cells [p', v] 74))) 5 1 (l.length + s.length) (dBy l ++ dBy s) v2 H2 → Bld H b (l ++ s) (upd H2 b (some (.cells [p', v2] 74))) := fun H2 v2 p' q1 q2 q3 => by
    refine ⟨h1, p', v2, q1, q2, ?_⟩
    have := q3.rebl (o' := .cells [p', v2] 74)
    rw [List.length_append, dBy_append]
    exact this
  have hone := hv.cell1
  have happ : ∀ {dst : Option Nat} {K : DK} {env : Nat → DVal} {p' : DVal} {H1 : DHeap}, OwnJ (upd H b (some (.cells [p', v] 74))) 5 1 l.length (dBy l) v H1 →
      (∀ v2 H2, (l ++ s = [] → v2 = .nilSlice) → OwnJ (upd H b (some (.cells [p', v] 74))) 5 1 (l.length + s.length) (dBy l ++ dBy s) v2 H2 → K ⟨updO env dst v2, H2⟩) → dAppendTo 5 1 1 s.length (dBy s) dst v K ⟨env, H1⟩ := by
    intro dst K env p' H1 q hK
    by_cases hs : l ++ s = []
    · simp only [List.append_eq_nil_iff] at hs
      obtain ⟨rfl, rfl⟩ := hs
      have hv0 := hnil rfl
      subst hv0
      simp only [dAppendTo, List.length_nil]
      exact ⟨fun _ => hK _ _ (fun _ => rfl) (by simpa [dBy] using q), fun h => absurd rfl h⟩
    · exact OwnJ.append q (by rw [dBy_length]; omega) (by omega) fun v2 H2 q2 => hK v2 H2 (fun e => absurd e hs) q2
  refine dcalls_intro Tryz.func59 Tryz.call59 rfl (by kernel_rfl) ?_
  simp (disch := omega) only [go_sem, Nat.reduceEqDiff, Nat.reduceAdd, Nat.reduceMul, Nat.reduceSub, Nat.reduceLeDiff, ↓reduceIte, reduceCtorEq, Int.reduceAdd, Int.reduceSub, Int.reduceMul, Int.reduceNeg, Int.reduceToNat, List.reduceReplicate, String.reduceEq]
  rcases hp with rfl | rfl
  · refine (copyCheck_fresh hb0).mono ?_
    rintro _ H1 ⟨rfl, rfl⟩
    simp (disch := omega) only [go_sem, Nat.reduceEqDiff, Nat.reduceAdd, Nat.reduceMul, Nat.reduceSub, Nat.reduceLeDiff, ↓reduceIte, reduceCtorEq, Int.reduceAdd, Int.reduceSub, Int.reduceMul, Int.reduceNeg, Int.reduceToNat, List.reduceReplicate, String.reduceEq, str_dBy, dBy_length, dBy_one]
    refine happ (OwnJ.rebl hv) fun v2 H2 q1 q2 => ?_
    have hb2 := q2.keep (r := b) (upd_same _ _ _)
    have c2 := q2.cell1
    simp (disch := omega) only [go_sem, Nat.reduceEqDiff, Nat.reduceAdd, Nat.reduceMul, Nat.reduceSub, Nat.reduceLeDiff, ↓reduceIte, reduceCtorEq, Int.reduceAdd, Int.reduceSub, Int.reduceMul, Int.reduceNeg, Int.reduceToNat, List.reduceReplicate, String.reduceEq, hb2, c2.1, c2.2, List.all_cons, List.all_nil]
    exact DFin.refl ⟨rfl, hlast _ _ _ (.inr rfl) q1 q2⟩
  · refine (copyCheck_used hb0).mono ?_
    rintro _ H1 ⟨rfl, rfl⟩
    simp (disch := omega) only [go_sem, Nat.reduceEqDiff, Nat.reduceAdd, Nat.reduceMul, Nat.reduceSub, Nat.reduceLeDiff, ↓reduceIte, reduceCtorEq, Int.reduceAdd, Int.reduceSub, Int.reduceMul, Int.reduceNeg, Int.reduceToNat, List.reduceReplicate, String.reduceEq, hb0, str_dBy, dBy_length, dBy_one]
    refine happ hv fun v2 H2 q1 q2 => ?_
    have hb2 := q2.keep (r := b) (upd_same _ _ _)
    have c2 := q2.cell1
    simp (disch := omega) only [go_sem, Nat.reduceEqDiff, Nat.reduceAdd, Nat.reduceMul, Nat.reduceSub, Nat.reduceLeDiff, ↓reduceIte, reduceCtorEq, Int.reduceAdd, Int.reduceSub, Int.reduceMul, Int.reduceNeg, Int.reduceToNat, List.reduceReplicate, String.reduceEq, hb2, c2.1, c2.2, List.all_cons, List.all_nil]
    exact DFin.refl ⟨rfl, hlast _ _ _ (.inr rfl) q1 q2⟩

theorem string_spec {H0 : DHeap} {b : Nat} {l : List UInt8} (h : Bld H b l H0) (hl : l.length ≤ 9223372036854775807) :
    DCalls Tryz.prog G 61 [.optr b 0] H0 (fun e H1 => e = .ret (.str l) ∧ Sub H H1) := by
  obtain ⟨h1, p, v, hp, hnil, hv⟩ := h
  have hb0 := hv.keep (r := b) (upd_same _ _ _)
  refine ⟨Tryz.call61, fun vs w hvs hH hG => ?_⟩
  simp only [RelL, Rel] at hvs
  obtain ⟨y, ys, rfl, rfl, rfl⟩ := hvs
  obtain ⟨xs, g3, g4⟩ := hH.holds hb0
  simp only [RelL] at g3
  obtain ⟨y0, ys0, rfl, gp, y1, ys1, rfl, g5, rfl⟩ := g3
  have hc1 : w.cell? ⟨b, 1, none⟩ = some y1 := by simpa using g4 1 _ rfl
  by_cases hl0 : l = []
  · have hv0 := hnil hl0
    subst hv0; subst hl0
    simp only [Rel] at g5
    subst g5
    refine (builder_string_nil Tryz.lays169 Tryz.Builder_Extra_169 b w hc1).mono ?_
    rintro e w' ⟨rfl, rfl⟩
    obtain ⟨k1, k2⟩ := (Quiet.drewN w 1).ext hH
    exact ⟨.ret (.str []), H0, ⟨rfl, ((Sub.refl H).up h1 _).trans hv.sub⟩, .ret _ _ (by simp [Rel]), k1, k2⟩
  · have hne : l.length ≠ 0 := by simpa using hl0
    rcases hv with ⟨hn, _⟩ | ⟨r, hr, hlen, rfl, hr0, hsub⟩
    · exact absurd hn hne
    simp only [Rel] at g5
    obtain ⟨o, cap, rfl, k1, k2, k3, k4⟩ := g5
    have ho : o = 0 := k3.resolve_left (by omega)
    subst ho
    obtain ⟨xs, c, fz, q1, q2, q3, q4⟩ := hH r _ hr0
    have hxl := q3.length
    rw [dBy_length] at hxl
    have hsz : xs.length ≤ c.size := by obtain ⟨t, ht⟩ := q2; rw [← Array.length_toList, ← ht]; simp
    have hcell : ∀ j x, l[j]? = some x → w.cell? ((⟨r, 0, none⟩ : Addr).add j) = some (.int .u8 x.toNat) := fun j x hx => by
      obtain ⟨hj, _⟩ := List.getElem?_eq_some_iff.1 hx
      obtain ⟨z, hz, hrz⟩ := q3.get (i := j) (d := .int .u8 x.toNat) (by simp [dBy, hx])
      simp only [Rel] at hrz
      subst hrz
      obtain ⟨t, ht⟩ := q2
      have hcj : c.toList[j]? = some (.int .u8 x.toNat) := by rw [← ht, List.getElem?_append_left (by omega)]; exact hz
      rw [show (⟨r, 0, none⟩ : Addr).add j = ⟨r, j, none⟩ by cases j <;> simp [Addr.add]]
      simp [World.cell?, q1]
      simpa using hcj
    refine (builder_string_at Tryz.lays169 Tryz.Builder_Extra_169 b r cap c.size l w hl0 hl (by omega) hc1 (by simp [World.shape?, q1]; rfl) (by omega) hcell).mono ?_
    rintro e w' ⟨rfl, rfl⟩
    have hfr : ∀ b', b' ≠ r → (w.drew.freeze ⟨r, 0, none⟩ l.length).heap[b']? = w.heap[b']? := fun b' hb' => by
      simp only [World.freeze, if_neg hne, Array.getElem?_modify, if_neg (Ne.symm hb')]
      rfl
    have hE : Ext H0 w (upd H0 r none) (w.drew.freeze ⟨r, 0, none⟩ l.length) := by
      refine ⟨by simp only [World.freeze, if_neg hne]; rfl, by simp only [World.freeze, if_neg hne]; rfl, by simp only [World.freeze, if_neg hne]; rfl, by simp only [World.freeze, if_neg hne, Array.size_modify]; exact Nat.le_refl _, fun b' _ hn => hfr b' (fun e => by rw [e, hr0] at hn; cases hn), fun b' hb' => .inl (by simp only [upd] at hb'; split at hb' <;> simp_all), fun b' _ => ?_, fun a _ hn => ?_⟩
      · by_cases e1 : b' = r
        · subst e1
          have : (w.drew.freeze ⟨b', 0, none⟩ l.length).heap[b']? = (w.heap[b']?).map fun | .cells c elem (lo, hi) => .cells c elem (if lo == hi then (0, 0 + l.length) else (min lo 0, max hi (0 + l.length))) | o => o := by
            simp only [World.freeze, if_neg hne, Array.getElem?_modify, if_true]; rfl
          rw [this, q1]; rfl
        · rw [hfr b' e1]
      · have e1 : a.block ≠ r := fun e => by rw [e, hr0] at hn; cases hn
        unfold World.frozen?
        rw [hfr _ e1]
    refine ⟨.ret (.str l), upd H0 r none, ⟨rfl, fun b' o' hb' => ?_⟩, .ret _ _ (by simp only [Rel]), fun b' o' hb' => ?_, hE⟩
    · have hbb : b' ≠ b := fun e => by rw [e, h1] at hb'; cases hb'
      have hrr : b' ≠ r := fun e => by rw [← e] at hr; simp only [upd, if_neg hbb] at hr; rw [hr] at hb'; cases hb'
      simp only [upd, if_neg hrr]
      exact hsub b' o' (by simp only [upd, if_neg hbb]; exact hb')
    · have hrr : b' ≠ r := fun e => by subst e; simp [upd] at hb'
      simp only [upd, if_neg hrr] at hb'
      rw [hfr b' hrr]
      exact (hH b' o' hb').lasts hE.lasts
end Go.Dl

-- Chapter 2: which tokens stand apart; strings.Builder's WriteByte, Len.
namespace Go.Dl
open Go Go.Proofs
set_option maxRecDepth 100000

section
variable {G : Nat → DVal} {H : DHeap}
theorem is_spec (G : Nat → DVal) (H : DHeap) (t : Tok) (of : List UInt8) : DCalls Tryz.prog G 104 [.agg (dTok t), .str of] H (DRet (.bool (isS t of)) H) := by
  refine dcalls_intro Tryz.func104 Tryz.call104 rfl (by kernel_rfl) ?_
  simp (disch := omega) only [go_sem, Nat.reduceEqDiff, Nat.reduceAdd, Nat.reduceMul, Nat.reduceSub, Nat.reduceLeDiff, ↓reduceIte, reduceCtorEq, Int.reduceAdd, Int.reduceSub, Int.reduceMul, Int.reduceNeg, Int.reduceToNat, List.reduceReplicate, String.reduceEq, DVal.cells]
  intro r hr; dsimp only at hr
  by_cases k4 : t.kind = 4
  · by_cases hl : t.text.length = 1
    · have hl' : (t.text.length : Int) = 1 := by omega
      obtain ⟨c, hc⟩ : ∃ c, t.text = [c] := List.length_eq_one_iff.1 hl
      simp (disch := omega) only [go_sem, Nat.reduceEqDiff, Nat.reduceAdd, Nat.reduceMul, Nat.reduceSub, Nat.reduceLeDiff, ↓reduceIte, reduceCtorEq, Int.reduceAdd, Int.reduceSub, Int.reduceMul, Int.reduceNeg, Int.reduceToNat, List.reduceReplicate, String.reduceEq, dTok_len, dTok_0, dTok_2, k4, hl']
      rw [hc]
      refine (contains1_spec of c).mono ?_
      rintro _ H1 ⟨rfl, rfl⟩
      simp (disch := omega) only [go_sem, Nat.reduceEqDiff, Nat.reduceAdd, Nat.reduceMul, Nat.reduceSub, Nat.reduceLeDiff, ↓reduceIte, reduceCtorEq, Int.reduceAdd, Int.reduceSub, Int.reduceMul, Int.reduceNeg, Int.reduceToNat, List.reduceReplicate, String.reduceEq]
      refine DFin.dropA r hr (DFin.refl ⟨?_, rfl⟩)
      rw [isS, hc, k4]; simp
    · have hl' : ¬ (t.text.length : Int) = 1 := by omega
      simp (disch := omega) only [go_sem, Nat.reduceEqDiff, Nat.reduceAdd, Nat.reduceMul, Nat.reduceSub, Nat.reduceLeDiff, ↓reduceIte, reduceCtorEq, Int.reduceAdd, Int.reduceSub, Int.reduceMul, Int.reduceNeg, Int.reduceToNat, List.reduceReplicate, String.reduceEq, dTok_len, dTok_0, dTok_2, k4, hl']
      refine DFin.dropA r hr (DFin.refl ⟨?_, rfl⟩)
      have : isS t of = false := by
        cases h : isS t of with
        | false => rfl
        | true => obtain ⟨_, c, hc, _⟩ := isS_at h; rw [hc] at hl; exact absurd rfl hl
      rw [this]
  · simp (disch := omega) only [go_sem, Nat.reduceEqDiff, Nat.reduceAdd, Nat.reduceMul, Nat.reduceSub, Nat.reduceLeDiff, ↓reduceIte, reduceCtorEq, Int.reduceAdd, Int.reduceSub, Int.reduceMul, Int.reduceNeg, Int.reduceToNat, List.reduceReplicate, String.reduceEq, dTok_len, dTok_0, dTok_2, k4]
    refine DFin.dropA r hr (DFin.refl ⟨?_, rfl⟩)
    rw [isS, decide_eq_false k4]; rfl
theorem dots_spec (G : Nat → DVal) (H : DHeap) (t : Tok) : DCalls Tryz.prog G 105 [.agg (dTok t)] H (DRet (.bool (dotsT t)) H) := by
  refine dcalls_intro Tryz.func105 Tryz.call105 rfl (by kernel_rfl) ?_
  simp (disch := omega) only [go_sem, Nat.reduceEqDiff, Nat.reduceAdd, Nat.reduceMul, Nat.reduceSub, Nat.reduceLeDiff, ↓reduceIte, reduceCtorEq, Int.reduceAdd, Int.reduceSub, Int.reduceMul, Int.reduceNeg, Int.reduceToNat, List.reduceReplicate, String.reduceEq, DVal.cells]
  intro r hr; dsimp only at hr
  simp (disch := omega) only [go_sem, Nat.reduceEqDiff, Nat.reduceAdd, Nat.reduceMul, Nat.reduceSub, Nat.reduceLeDiff, ↓reduceIte, reduceCtorEq, Int.reduceAdd, Int.reduceSub, Int.reduceMul, Int.reduceNeg, Int.reduceToNat, List.reduceReplicate, String.reduceEq, dTok_len, dTok_t4]
  refine (is_spec G _ t [46]).mono ?_
  rintro _ H1 ⟨rfl, rfl⟩
  cases h : isS t [46] with
  | true =>
    simp (disch := omega) only [go_sem, Nat.reduceEqDiff, Nat.reduceAdd, Nat.reduceMul, Nat.reduceSub, Nat.reduceLeDiff, ↓reduceIte, reduceCtorEq, Int.reduceAdd, Int.reduceSub, Int.reduceMul, Int.reduceNeg, Int.reduceToNat, List.reduceReplicate, String.reduceEq]
    exact DFin.dropA r hr (DFin.refl ⟨by rw [dotsT, h]; rfl, rfl⟩)
  | false =>
    by_cases k4 : t.kind = 4
    · simp (disch := omega) only [go_sem, Nat.reduceEqDiff, Nat.reduceAdd, Nat.reduceMul, Nat.reduceSub, Nat.reduceLeDiff, ↓reduceIte, reduceCtorEq, Int.reduceAdd, Int.reduceSub, Int.reduceMul, Int.reduceNeg, Int.reduceToNat, List.reduceReplicate, String.reduceEq, dTok_len, dTok_0, dTok_2, k4]
      exact DFin.dropA r hr (DFin.refl ⟨by rw [dotsT, h, decide_eq_true k4]; rfl, rfl⟩)
    · simp (disch := omega) only [go_sem, Nat.reduceEqDiff, Nat.reduceAdd, Nat.reduceMul, Nat.reduceSub, Nat.reduceLeDiff, ↓reduceIte, reduceCtorEq, Int.reduceAdd, Int.reduceSub, Int.reduceMul, Int.reduceNeg, Int.reduceToNat, List.reduceReplicate, String.reduceEq, dTok_len, dTok_0, dTok_2, k4]
      exact DFin.dropA r hr (DFin.refl ⟨by rw [dotsT, h, decide_eq_false k4]; rfl, rfl⟩)
theorem apart_spec (G : Nat → DVal) (H : DHeap) (a b : Tok) : DCalls Tryz.prog G 78 [.agg (dTok a), .agg (dTok b)] H (DRet (.bool (apartT a b)) H) := by
  refine dcalls_intro Tryz.func78 Tryz.call78 rfl (by kernel_rfl) ?_
  simp (disch := omega) only [go_sem, Nat.reduceEqDiff, Nat.reduceAdd, Nat.reduceMul, Nat.reduceSub, Nat.reduceLeDiff, ↓reduceIte, reduceCtorEq, Int.reduceAdd, Int.reduceSub, Int.reduceMul, Int.reduceNeg, Int.reduceToNat, List.reduceReplicate, String.reduceEq, DVal.cells]
  intro r2 hr2; dsimp only at hr2
  simp (disch := omega) only [go_sem, Nat.reduceEqDiff, Nat.reduceAdd, Nat.reduceMul, Nat.reduceSub, Nat.reduceLeDiff, ↓reduceIte, reduceCtorEq, Int.reduceAdd, Int.reduceSub, Int.reduceMul, Int.reduceNeg, Int.reduceToNat, List.reduceReplicate, String.reduceEq, DVal.cells]
  intro r3 hr3; dsimp only at hr3
  obtain ⟨m2, m1, hr3'⟩ := upd_eq_none.1 hr3
  simp (disch := omega) only [go_sem, Nat.reduceEqDiff, Nat.reduceAdd, Nat.reduceMul, Nat.reduceSub, Nat.reduceLeDiff, ↓reduceIte, reduceCtorEq, Int.reduceAdd, Int.reduceSub, Int.reduceMul, Int.reduceNeg, Int.reduceToNat, List.reduceReplicate, String.reduceEq, dTok_len, dTok_t4, m1, m2]
  refine (is_spec G _ b [44, 59, 41, 39]).mono ?_
  rintro _ H1 ⟨rfl, rfl⟩
  cases h1 : isS b [44, 59, 41, 39] with
  | true =>
    simp (disch := omega) only [go_sem, Nat.reduceEqDiff, Nat.reduceAdd, Nat.reduceMul, Nat.reduceSub, Nat.reduceLeDiff, ↓reduceIte, reduceCtorEq, Int.reduceAdd, Int.reduceSub, Int.reduceMul, Int.reduceNeg, Int.reduceToNat, List.reduceReplicate, String.reduceEq]
    exact DFin.sub (show Sub H _ from (by repeat (first | exact Sub.refl _ | assumption | refine Sub.up ?_ (by assumption) _))) (DFin.refl ⟨by rw [apartT, h1]; rfl, rfl⟩)
  | false =>
    simp (disch := omega) only [go_sem, Nat.reduceEqDiff, Nat.reduceAdd, Nat.reduceMul, Nat.reduceSub, Nat.reduceLeDiff, ↓reduceIte, reduceCtorEq, Int.reduceAdd, Int.reduceSub, Int.reduceMul, Int.reduceNeg, Int.reduceToNat, List.reduceReplicate, String.reduceEq, dTok_len, dTok_t4, m1, m2]
    refine (is_spec G _ a [40, 39]).mono ?_
    rintro _ H1 ⟨rfl, rfl⟩
    cases h2 : isS a [40, 39] with
    | true =>
      simp (disch := omega) only [go_sem, Nat.reduceEqDiff, Nat.reduceAdd, Nat.reduceMul, Nat.reduceSub, Nat.reduceLeDiff, ↓reduceIte, reduceCtorEq, Int.reduceAdd, Int.reduceSub, Int.reduceMul, Int.reduceNeg, Int.reduceToNat, List.reduceReplicate, String.reduceEq]
      exact DFin.sub (show Sub H _ from (by repeat (first | exact Sub.refl _ | assumption | refine Sub.up ?_ (by assumption) _))) (DFin.refl ⟨by rw [apartT, h1, h2]; rfl, rfl⟩)
    | false =>
      simp (disch := omega) only [go_sem, Nat.reduceEqDiff, Nat.reduceAdd, Nat.reduceMul, Nat.reduceSub, Nat.reduceLeDiff, ↓reduceIte, reduceCtorEq, Int.reduceAdd, Int.reduceSub, Int.reduceMul, Int.reduceNeg, Int.reduceToNat, List.reduceReplicate, String.reduceEq, dTok_len, dTok_t4, m1, m2]
      refine (is_spec G _ a [46]).mono ?_
      rintro _ H1 ⟨rfl, rfl⟩
      cases h3 : isS a [46] with
      | true =>
        simp (disch := omega) only [go_sem, Nat.reduceEqDiff, Nat.reduceAdd, Nat.reduceMul, Nat.reduceSub, Nat.reduceLeDiff, ↓reduceIte, reduceCtorEq, Int.reduceAdd, Int.reduceSub, Int.reduceMul, Int.reduceNeg, Int.reduceToNat, List.reduceReplicate, String.reduceEq, dTok_len, dTok_t4, m1, m2]
        refine (dots_spec G _ b).mono ?_
        rintro _ H1 ⟨rfl, rfl⟩
        simp (disch := omega) only [go_sem, Nat.reduceEqDiff, Nat.reduceAdd, Nat.reduceMul, Nat.reduceSub, Nat.reduceLeDiff, ↓reduceIte, reduceCtorEq, Int.reduceAdd, Int.reduceSub, Int.reduceMul, Int.reduceNeg, Int.reduceToNat, List.reduceReplicate, String.reduceEq]
        exact DFin.sub (show Sub H _ from (by repeat (first | exact Sub.refl _ | assumption | refine Sub.up ?_ (by assumption) _))) (DFin.refl ⟨by rw [apartT, h1, h2, h3]; rfl, rfl⟩)
      | false =>
        simp (disch := omega) only [go_sem, Nat.reduceEqDiff, Nat.reduceAdd, Nat.reduceMul, Nat.reduceSub, Nat.reduceLeDiff, ↓reduceIte, reduceCtorEq, Int.reduceAdd, Int.reduceSub, Int.reduceMul, Int.reduceNeg, Int.reduceToNat, List.reduceReplicate, String.reduceEq, dTok_len, dTok_t4, m1, m2]
        refine (is_spec G _ b [46]).mono ?_
        rintro _ H1 ⟨rfl, rfl⟩
        cases h4 : isS b [46] with
        | true =>
          simp (disch := omega) only [go_sem, Nat.reduceEqDiff, Nat.reduceAdd, Nat.reduceMul, Nat.reduceSub, Nat.reduceLeDiff, ↓reduceIte, reduceCtorEq, Int.reduceAdd, Int.reduceSub, Int.reduceMul, Int.reduceNeg, Int.reduceToNat, List.reduceReplicate, String.reduceEq, dTok_len, dTok_t4, m1, m2]
          refine (dots_spec G _ a).mono ?_
          rintro _ H1 ⟨rfl, rfl⟩
          simp (disch := omega) only [go_sem, Nat.reduceEqDiff, Nat.reduceAdd, Nat.reduceMul, Nat.reduceSub, Nat.reduceLeDiff, ↓reduceIte, reduceCtorEq, Int.reduceAdd, Int.reduceSub, Int.reduceMul, Int.reduceNeg, Int.reduceToNat, List.reduceReplicate, String.reduceEq]
          exact DFin.sub (show Sub H _ from (by repeat (first | exact Sub.refl _ | assumption | refine Sub.up ?_ (by assumption) _))) (DFin.refl ⟨by rw [apartT, h1, h2, h3, h4]; rfl, rfl⟩)
        | false =>
          simp (disch := omega) only [go_sem, Nat.reduceEqDiff, Nat.reduceAdd, Nat.reduceMul, Nat.reduceSub, Nat.reduceLeDiff, ↓reduceIte, reduceCtorEq, Int.reduceAdd, Int.reduceSub, Int.reduceMul, Int.reduceNeg, Int.reduceToNat, List.reduceReplicate, String.reduceEq]
          exact DFin.sub (show Sub H _ from (by repeat (first | exact Sub.refl _ | assumption | refine Sub.up ?_ (by assumption) _))) (DFin.refl ⟨by rw [apartT, h1, h2, h3, h4]; rfl, rfl⟩)
end
end Go.Dl
