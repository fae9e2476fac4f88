/- The data level and the contracts of the functions that are reached (part 9). -/
import Derived.Test.YtbefgogblpebfaaDoorRows
import Derived.Test.YtbefgogblpebfaaDoorQh
set_option linter.unusedSimpArgs false
set_option linter.unusedVariables false
-- Chapter 30: Read of the reference; equality of costs.
namespace Go.Dl
open Go Go.Proofs
set_option maxRecDepth 10000

/-- How many places there are for what was seen does not matter. -/
def SeenR (a b : RdC) : Prop := a.c = b.c ∧ 58 ≤ a.seen.length ∧ 58 ≤ b.seen.length ∧ ∀ o, o ≤ 57 → a.seen.getD o false = b.seen.getD o false
theorem seenR_step {a b : RdC} (h : SeenR a b) (w : List UInt8) : (stepC a w = none ∧ stepC b w = none) ∨ ∃ a' b', stepC a w = some a' ∧ stepC b w = some b' ∧ SeenR a' b' := by
  obtain ⟨h1, h2, h3, h4⟩ := h
  unfold stepC
  cases hp : partC w with
  | none => exact .inl ⟨rfl, rfl⟩
  | some p =>
    have ho := (partC_iff (o := p.1) (v := p.2)).1 hp
    have h57 : p.1 ≤ 57 := ho.2.1
    have := h4 p.1 h57
    simp only
    rw [this]
    cases hb : b.seen.getD p.1 false with
    | true => exact .inl ⟨by simp, by simp⟩
    | false =>
      refine .inr ⟨⟨a.c.set p.1 p.2, a.seen.set p.1 true⟩, ⟨b.c.set p.1 p.2, b.seen.set p.1 true⟩, by simp only [Bool.false_eq_true, if_false], by simp only [Bool.false_eq_true, if_false], by rw [h1], by simpa using h2, by simpa using h3, fun o ho => ?_⟩
      simp only [List.getD, List.getElem?_set]
      have := h4 o ho
      simp only [List.getD] at this
      by_cases e : p.1 = o
      · subst e; rw [if_pos rfl, if_pos rfl, if_pos (by omega), if_pos (by omega)]
      · rw [if_neg e, if_neg e]; exact this
theorem seenR_fold : ∀ (l : List (List UInt8)) {a b : RdC}, SeenR a b → (foldC a l).map (·.c) = (foldC b l).map (·.c)
  | [], a, b, h => by simp [foldC, h.1]
  | w :: l, a, b, h => by
    simp only [foldC]
    rcases seenR_step h w with ⟨h1, h2⟩ | ⟨a', b', h1, h2, h3⟩
    · rw [h1, h2]
    · rw [h1, h2]; exact seenR_fold l h3
theorem readC_256 (s : List UInt8) : readC s = (rdC (rd0 256) s).map (·.c) := by
  rw [readC, rdC, rdC]
  split
  · refine seenR_fold _ ⟨rfl, by simp [rd0], by simp [rd0], fun o ho => ?_⟩
    simp only [rd0, List.getD, List.getElem?_replicate]
    rw [if_pos (by omega), if_pos (by omega)]
  all_goals rfl
theorem lf_cases2 {t : List UInt8} {n : Nat} (hn : n < t.length) (h10 : t[n] = 10) (hno : ∀ j, j < n → t[j]? ≠ some 10) : t = t.take n ++ 10 :: t.drop (n + 1) ∧ (10 : UInt8) ∉ t.take n := by
  constructor
  · conv => lhs; rw [← List.take_append_drop n t, List.drop_eq_getElem_cons hn, h10]
  · intro hm
    obtain ⟨j, hj, e⟩ := List.mem_take_iff_getElem.1 hm
    exact hno j (by omega) (by rw [List.getElem?_eq_getElem (by omega), e])

def no256 : List Bool := List.replicate 256 false
set_option maxHeartbeats 4000000 in
theorem rread_spec (G : Nat → DVal) (H : DHeap) (s : List UInt8) (hs : s.length ≤ 1000000) :
    DCalls Tryd.prog G 28 [.str s] H (DRet (.tuple [dCs (readCD s).1, dI (readCD s).2]) H) := by
  have hz : [DVal.int IntKind.i64 0, DVal.int IntKind.i64 0, DVal.int IntKind.i64 0, DVal.int IntKind.i64 0, DVal.int IntKind.i64 0, DVal.int IntKind.i64 0, DVal.int IntKind.i64 0, DVal.int IntKind.i64 0, DVal.int IntKind.i64 0, DVal.int IntKind.i64 0, DVal.int IntKind.i64 0, DVal.int IntKind.i64 0, DVal.int IntKind.i64 0, DVal.int IntKind.i64 0, DVal.int IntKind.i64 0, DVal.int IntKind.i64 0, DVal.int IntKind.i64 0, DVal.int IntKind.i64 0, DVal.int IntKind.i64 0, DVal.int IntKind.i64 0, DVal.int IntKind.i64 0, DVal.int IntKind.i64 0, DVal.int IntKind.i64 0, DVal.int IntKind.i64 0, DVal.int IntKind.i64 0, DVal.int IntKind.i64 0, DVal.int IntKind.i64 0, DVal.int IntKind.i64 0, DVal.int IntKind.i64 0, DVal.int IntKind.i64 0, DVal.int IntKind.i64 0, DVal.int IntKind.i64 0, DVal.int IntKind.i64 0, DVal.int IntKind.i64 0, DVal.int IntKind.i64 0, DVal.int IntKind.i64 0, DVal.int IntKind.i64 0, DVal.int IntKind.i64 0, DVal.int IntKind.i64 0, DVal.int IntKind.i64 0, DVal.int IntKind.i64 0, DVal.int IntKind.i64 0, DVal.int IntKind.i64 0, DVal.int IntKind.i64 0, DVal.int IntKind.i64 0, DVal.int IntKind.i64 0, DVal.int IntKind.i64 0, DVal.int IntKind.i64 0, DVal.int IntKind.i64 0, DVal.int IntKind.i64 0, DVal.int IntKind.i64 0, DVal.int IntKind.i64 0, DVal.int IntKind.i64 0, DVal.int IntKind.i64 0, DVal.int IntKind.i64 0, DVal.int IntKind.i64 0, DVal.int IntKind.i64 0, DVal.int IntKind.i64 0] = zeroC.map dI := rfl
  have hzb : zeroOf Tryd.prog 108 = some (.agg (no256.map DVal.bool)) := by kernel_rfl
  have hl : (defC.map dI).length = 58 := rfl
  have ha : (defC.map dI).all (fun d => d.one) = true := rfl
  have hzl : (zeroC.map dI).length = 58 := rfl
  have hza : (zeroC.map dI).all (fun d => d.one) = true := rfl
  have hzt : (zeroC.map dI).take 58 = zeroC.map dI := rfl
  have hzd : (zeroC.map dI).drop 58 = [] := rfl
  have hbl : (no256.map DVal.bool).length = 256 := rfl
  have hba : (no256.map DVal.bool).all (fun d => d.one) = true := rfl
  have hbd : (no256.map DVal.bool).drop 256 = [] := rfl
  refine dcalls_intro Tryd.func28 Tryd.call28 rfl (by kernel_rfl) ?_
  simp (disch := omega) only [go_sem, Nat.reduceEqDiff, Nat.reduceAdd, Nat.reduceMul, Nat.reduceSub, Nat.reduceLeDiff, ↓reduceIte, reduceCtorEq, Int.reduceAdd, Int.reduceSub, Int.reduceMul, Int.reduceNeg, Int.reduceToNat, List.reduceReplicate, String.reduceEq]
  rw [hz]
  intro r2 hr2; dsimp only at hr2
  simp (disch := omega) only [go_sem, Nat.reduceEqDiff, Nat.reduceAdd, Nat.reduceMul, Nat.reduceSub, Nat.reduceLeDiff, ↓reduceIte, reduceCtorEq, Int.reduceAdd, Int.reduceSub, Int.reduceMul, Int.reduceNeg, Int.reduceToNat, List.reduceReplicate, String.reduceEq]
  refine (rdefault_spec G _).mono ?_
  rintro _ H1 ⟨rfl, rfl⟩
  simp (disch := omega) only [go_sem, Nat.reduceEqDiff, Nat.reduceAdd, Nat.reduceMul, Nat.reduceSub, Nat.reduceLeDiff, ↓reduceIte, reduceCtorEq, Int.reduceAdd, Int.reduceSub, Int.reduceMul, Int.reduceNeg, Int.reduceToNat, List.reduceReplicate, String.reduceEq, dCs, DVal.cells]
  rw [hz]
  intro r4 hr4; dsimp only at hr4
  simp (disch := omega) only [go_sem, Nat.reduceEqDiff, Nat.reduceAdd, Nat.reduceMul, Nat.reduceSub, Nat.reduceLeDiff, ↓reduceIte, reduceCtorEq, Int.reduceAdd, Int.reduceSub, Int.reduceMul, Int.reduceNeg, Int.reduceToNat, List.reduceReplicate, String.reduceEq, hl, ha, hzl, hzd, List.append_nil, hzb, DVal.cells]
  intro r5 hr5; dsimp only at hr5
  obtain ⟨m2, m1, hr5'⟩ := upd_eq_none.1 hr5
  obtain ⟨q4, p4, hr4'⟩ := upd_eq_none.1 hr4
  obtain ⟨q5, p5, hr5''⟩ := upd_eq_none.1 hr5'
  simp (disch := omega) only [go_sem, Nat.reduceEqDiff, Nat.reduceAdd, Nat.reduceMul, Nat.reduceSub, Nat.reduceLeDiff, ↓reduceIte, reduceCtorEq, Int.reduceAdd, Int.reduceSub, Int.reduceMul, Int.reduceNeg, Int.reduceToNat, List.reduceReplicate, String.reduceEq, hzb, hbl, hba, hbd, List.append_nil, DVal.cells]
  obtain ⟨I, hI⟩ : ∃ I : RdC × List UInt8 → (Nat → DVal) → DHeap → Prop, ∀ ix env heap, I ix env heap ↔ (env 0 = .str ix.2 ∧ env 2 = .optr r2 0 ∧ env 4 = .optr r4 0 ∧ env 5 = .optr r5 0 ∧ heap = upd (upd (upd H r2 (some (.cells (zeroC.map dI) 23))) r4 (some (.cells (ix.1.c.map dI) 23))) r5 (some (.cells (ix.1.seen.map .bool) 108)) ∧ ix.1.c.length = 58 ∧ ix.1.seen.length = 256 ∧ rdC ix.1 ix.2 = rdC (rd0 256) s ∧ ix.2.length ≤ 1000000) := ⟨_, fun _ _ _ => Iff.rfl⟩
  refine DLoop.run I (fun ix => ix.2.length) (⟨defC, no256⟩, s) ((hI _ _ _).2 ?_) ?_
  · simp (disch := omega) only [go_sem, Nat.reduceEqDiff, Nat.reduceAdd, Nat.reduceMul, Nat.reduceSub, Nat.reduceLeDiff, ↓reduceIte, reduceCtorEq, Int.reduceAdd, Int.reduceSub, Int.reduceMul, Int.reduceNeg, Int.reduceToNat, List.reduceReplicate, String.reduceEq]
    (repeat' apply And.intro) <;> (try first | rfl | assumption | omega)
  · rintro ⟨st, t⟩ env heap hi
    obtain ⟨e0, e2, e4, e5, rfl, hc, hsn, hrd, htl⟩ := (hI _ _ _).1 hi
    dsimp only at e0 hc hsn hrd htl
    have hsubE : Sub H (upd (upd (upd H r2 (some (.cells (zeroC.map dI) 23))) r4 (some (.cells (st.c.map dI) 23))) r5 (some (.cells (st.seen.map .bool) 108))) := (by repeat (first | exact Sub.refl _ | assumption | refine Sub.up ?_ (by assumption) _))
    have hcl : (st.c.map dI).length = 58 := by rw [List.length_map, hc]
    have hsl : (st.seen.map DVal.bool).length = 256 := by rw [List.length_map, hsn]
    by_cases ht : t = []
    · subst ht
      have hok : readCD s = (st.c, 0) := by rw [readCD, readC_256, ← hrd, rdC_nil]; rfl
      have hct : (st.c.map dI).take 58 = st.c.map dI := List.take_of_length_le (by omega)
      have hca : (st.c.map dI).all (fun d => d.one) = true := ints_one _
      simp (disch := omega) only [go_sem, Nat.reduceEqDiff, Nat.reduceAdd, Nat.reduceMul, Nat.reduceSub, Nat.reduceLeDiff, ↓reduceIte, reduceCtorEq, Int.reduceAdd, Int.reduceSub, Int.reduceMul, Int.reduceNeg, Int.reduceToNat, List.reduceReplicate, String.reduceEq, e0, e2, e4, e5, List.length_nil, m1, m2, p4, q4, p5, q5, hcl, hct, hca, hzl, hzd, hzt, List.append_nil]
      exact DFin.sub (show Sub H _ from (by repeat (first | exact Sub.refl _ | assumption | refine Sub.up ?_ (by assumption) _))) (DFin.refl ⟨by rw [hok], rfl⟩)
    · have hpos : 0 < t.length := List.length_pos_iff.2 ht
      have hpos' : (0 : Int) < (t.length : Int) := by omega
      simp (disch := omega) only [go_sem, Nat.reduceEqDiff, Nat.reduceAdd, Nat.reduceMul, Nat.reduceSub, Nat.reduceLeDiff, ↓reduceIte, reduceCtorEq, Int.reduceAdd, Int.reduceSub, Int.reduceMul, Int.reduceNeg, Int.reduceToNat, List.reduceReplicate, String.reduceEq, e0, e2, e4, e5, hpos']
      have hbad : rdC st t = none → readCD s = (zeroC, 5) := fun h => readCD_none (by rw [readC_256, ← hrd, h]; rfl)
      obtain ⟨J, hJ⟩ : ∃ J : Nat → (Nat → DVal) → DHeap → Prop, ∀ n env heap, J n env heap ↔ (env 0 = .str t ∧ env 2 = .optr r2 0 ∧ env 4 = .optr r4 0 ∧ env 5 = .optr r5 0 ∧ env 6 = dI n ∧ n ≤ t.length ∧ (∀ j, j < n → t[j]? ≠ some 10) ∧ heap = upd (upd (upd H r2 (some (.cells (zeroC.map dI) 23))) r4 (some (.cells (st.c.map dI) 23))) r5 (some (.cells (st.seen.map .bool) 108))) := ⟨_, fun _ _ _ => Iff.rfl⟩
      refine DLoop.run J (fun n => t.length - n) 0 ((hJ _ _ _).2 ?_) ?_
      · simp (disch := omega) only [go_sem, Nat.reduceEqDiff, Nat.reduceAdd, Nat.reduceMul, Nat.reduceSub, Nat.reduceLeDiff, ↓reduceIte, reduceCtorEq, Int.reduceAdd, Int.reduceSub, Int.reduceMul, Int.reduceNeg, Int.reduceToNat, List.reduceReplicate, String.reduceEq, e0, e2, e4, e5]
        (repeat' apply And.intro) <;> (try first | rfl | assumption | omega)
        all_goals (intros; omega)
      · intro n env heap hj
        obtain ⟨e0, e2, e4, e5, e6, hn, hno, rfl⟩ := (hJ _ _ _).1 hj
        by_cases hlt : n < t.length
        · have hget : t[n]? = some t[n] := List.getElem?_eq_getElem hlt
          by_cases c : t[n] = 10
          · have c' : (t[n].toNat : Int) = 10 := by rw [c]; rfl
            obtain ⟨hsplit, hno10⟩ := lf_cases2 hlt c hno
            have hnl : ¬ (n : Int) = (t.length : Int) := by omega
            have hwl : (t.take n).length ≤ 1000000 := by simp; omega
            have hrl : (t.drop (n + 1)).length ≤ 1000000 := by simp; omega
            have hdt : (t.drop (n + 1)).take (t.length - (n + 1)) = t.drop (n + 1) := List.take_of_length_le (by simp)
            have hrl2 : (t.drop (n + 1)).length < t.length := by simp; omega
            generalize hw : t.take n = w at *
            generalize hr : t.drop (n + 1) = r at *
            have ht1 : t.take (n - 0) = w := by rw [Nat.sub_zero]; exact hw
            have hst := rdC_at st (w := w) (r := r) hno10
            rw [← hsplit] at hst
            simp (disch := omega) only [go_sem, Nat.reduceEqDiff, Nat.reduceAdd, Nat.reduceMul, Nat.reduceSub, Nat.reduceLeDiff, ↓reduceIte, reduceCtorEq, Int.reduceAdd, Int.reduceSub, Int.reduceMul, Int.reduceNeg, Int.reduceToNat, List.reduceReplicate, String.reduceEq, e0, e2, e4, e5, e6, hget, hlt, c', hnl, Int.toNat_natCast, ht1, hw]
            refine (line_spec G _ w (by omega)).mono ?_
            rintro _ H1 ⟨rfl, rfl⟩
            cases hp : partC w with
            | none =>
              have hx : stepC st w = none := by rw [stepC, hp]
              rw [hx] at hst
              simp (disch := omega) only [go_sem, Nat.reduceEqDiff, Nat.reduceAdd, Nat.reduceMul, Nat.reduceSub, Nat.reduceLeDiff, ↓reduceIte, reduceCtorEq, Int.reduceAdd, Int.reduceSub, Int.reduceMul, Int.reduceNeg, Int.reduceToNat, List.reduceReplicate, String.reduceEq, lineD, hp, e0, e2, e4, e5, hz, hzl, hza, hzd, m1, m2, p4, q4, p5, q5, hzt, List.append_nil]
              exact DFin.sub (show Sub H _ from (by repeat (first | exact Sub.refl _ | assumption | refine Sub.up ?_ (by assumption) _))) (DFin.refl ⟨by rw [hbad hst], rfl⟩)
            | some p =>
              obtain ⟨o, v⟩ := p
              have hline := (partC_iff (o := o) (v := v)).1 hp
              have ho : o ≤ 57 := hline.2.1
              have hgs : (st.seen.map DVal.bool)[o]? = some (.bool (st.seen.getD o false)) := by
                rw [List.getElem?_map, List.getElem?_eq_getElem (by omega), List.getD, List.getElem?_eq_getElem (by omega)]; rfl
              cases hb : st.seen.getD o false with
              | true =>
                rw [hb] at hgs
                have hx : stepC st w = none := by rw [stepC, hp]; simp only [hb, if_true]
                rw [hx] at hst
                simp (disch := omega) only [go_sem, Nat.reduceEqDiff, Nat.reduceAdd, Nat.reduceMul, Nat.reduceSub, Nat.reduceLeDiff, ↓reduceIte, reduceCtorEq, Int.reduceAdd, Int.reduceSub, Int.reduceMul, Int.reduceNeg, Int.reduceToNat, List.reduceReplicate, String.reduceEq, lineD, hp, e0, e2, e4, e5, hz, hzl, hza, hzd, m1, m2, p4, q4, p5, q5, hzt, hsl, hgs, Int.toNat_natCast, List.append_nil]
                exact DFin.sub (show Sub H _ from (by repeat (first | exact Sub.refl _ | assumption | refine Sub.up ?_ (by assumption) _))) (DFin.refl ⟨by rw [hbad hst], rfl⟩)
              | false =>
                rw [hb] at hgs
                have hx : stepC st w = some ⟨st.c.set o v, st.seen.set o true⟩ := by rw [stepC, hp]; simp only [hb]; rfl
                rw [hx] at hst
                have hset1 := splice_setA DVal.bool st.seen o true (by omega)
                have hset2 := splice_setA dI st.c o v (by omega)
                have hw1 : IntKind.i64.wrap ((n : Int) + 1) = ((n + 1 : Nat) : Int) := by rw [IntKind.wrap_i64]; omega
                simp (disch := omega) only [go_sem, Nat.reduceEqDiff, Nat.reduceAdd, Nat.reduceMul, Nat.reduceSub, Nat.reduceLeDiff, ↓reduceIte, reduceCtorEq, Int.reduceAdd, Int.reduceSub, Int.reduceMul, Int.reduceNeg, Int.reduceToNat, List.reduceReplicate, String.reduceEq, lineD, hp, e0, e2, e4, e5, e6, hcl, hsl, hgs, m1, m2, p4, q4, p5, q5, hset1, hset2, hw1, hdt, hr, Int.toNat_natCast]
                refine ⟨(⟨st.c.set o v, st.seen.set o true⟩, r), _, GhostS.refl _, (hI _ _ _).2 ?_, hrl2⟩
                simp (disch := omega) only [go_sem, Nat.reduceEqDiff, Nat.reduceAdd, Nat.reduceMul, Nat.reduceSub, Nat.reduceLeDiff, ↓reduceIte, reduceCtorEq, Int.reduceAdd, Int.reduceSub, Int.reduceMul, Int.reduceNeg, Int.reduceToNat, List.reduceReplicate, String.reduceEq, e0, e2, e4, e5]
                (repeat' apply And.intro) <;> (try first | rfl | assumption | omega)
                · rw [upd_swap m1, upd_upd]
                · simp [hc]
                · simp [hsn]
                · rw [← hrd, hst]
          · have c' : ¬ (t[n].toNat : Int) = 10 := toNat_ne (d := 10) c
            simp (disch := omega) only [go_sem, Nat.reduceEqDiff, Nat.reduceAdd, Nat.reduceMul, Nat.reduceSub, Nat.reduceLeDiff, ↓reduceIte, reduceCtorEq, Int.reduceAdd, Int.reduceSub, Int.reduceMul, Int.reduceNeg, Int.reduceToNat, List.reduceReplicate, String.reduceEq, e0, e2, e4, e5, e6, hget, hlt, c']
            refine ⟨n + 1, _, GhostS.refl _, (hJ _ _ _).2 ?_, by omega⟩
            simp (disch := omega) only [go_sem, Nat.reduceEqDiff, Nat.reduceAdd, Nat.reduceMul, Nat.reduceSub, Nat.reduceLeDiff, ↓reduceIte, reduceCtorEq, Int.reduceAdd, Int.reduceSub, Int.reduceMul, Int.reduceNeg, Int.reduceToNat, List.reduceReplicate, String.reduceEq, e0, e2, e4, e5]
            (repeat' apply And.intro) <;> (try first | rfl | assumption | omega)
            intro j hj2 he
            by_cases e : j = n
            · subst e; rw [hget] at he; exact c (Option.some.inj he)
            · exact hno j (by omega) he
        · have hnl : n = t.length := by omega
          subst hnl
          have hno10 : (10 : UInt8) ∉ t := fun hm => by
            obtain ⟨j, hj, e⟩ := List.mem_iff_getElem.1 hm
            exact hno j hj (by rw [List.getElem?_eq_getElem hj, e])
          simp (disch := omega) only [go_sem, Nat.reduceEqDiff, Nat.reduceAdd, Nat.reduceMul, Nat.reduceSub, Nat.reduceLeDiff, ↓reduceIte, reduceCtorEq, Int.reduceAdd, Int.reduceSub, Int.reduceMul, Int.reduceNeg, Int.reduceToNat, List.reduceReplicate, String.reduceEq, e0, e2, e4, e5, e6, hlt, hz, hzl, hza, hzd, m1, m2, p4, q4, p5, q5, hzt, List.append_nil]
          exact DFin.sub (show Sub H _ from (by repeat (first | exact Sub.refl _ | assumption | refine Sub.up ?_ (by assumption) _))) (DFin.refl ⟨by rw [hbad (rdC_no st hno10 ht)], rfl⟩)
end Go.Dl

-- Chapter 30: the examples (head), equality of costs.
namespace Go.Dl
open Go Go.Proofs
set_option maxRecDepth 10000

theorem itoa_12 : Lib.itoa 12 = [49, 50] := by rw [show (12 : Int) = ((12 : Nat) : Int) from rfl, Lib.itoa_nonneg, Lib.decDigits_two (by omega) (by omega)]; rfl
def setDiv : List Int := defC.set 12 12
theorem ex_read1 : readCD [100, 105, 118, 32, 49, 50, 10] = (setDiv, 0) := by
  have hl : LineC 12 12 [100, 105, 118, 32, 49, 50] := ⟨by omega, by omega, by omega, by omega, by rw [itoa_12]; rfl⟩
  have hs : stepC (rd0 58) [100, 105, 118, 32, 49, 50] = some ⟨setDiv, (rd0 58).seen.set 12 true⟩ := by rw [stepC, partC_iff.2 hl]; rfl
  rw [readCD, readC, show ([100, 105, 118, 32, 49, 50, 10] : List UInt8) = [100, 105, 118, 32, 49, 50] ++ 10 :: [] from rfl, rdC_at _ (by decide), hs]
  rfl
theorem ex_read2 : readCD [100, 105, 118, 32, 48, 49, 50, 10] = (zeroC, 5) := by
  have hp : partC [100, 105, 118, 32, 48, 49, 50] = none := by
    rw [partC, show pI (restOf [100, 105, 118, 32, 48, 49, 50]) = some 12 from rfl]
    simp only
    rw [if_neg]
    rintro ⟨_, _, _, h⟩
    rw [itoa_12] at h
    revert h; decide
  have hs : stepC (rd0 58) [100, 105, 118, 32, 48, 49, 50] = none := by rw [stepC, hp]
  exact readCD_none (by rw [readC, show ([100, 105, 118, 32, 48, 49, 50, 10] : List UInt8) = [100, 105, 118, 32, 48, 49, 50] ++ 10 :: [] from rfl, rdC_at _ (by decide), hs]; rfl)
theorem ex_read3 : readCD [100, 105, 118, 32, 49, 50] = (zeroC, 5) := readCD_none (by rw [readC, rdC_no _ (by decide) (by simp)]; rfl)

/-- What the package's variables hold. -/
structure GC (G : Nat → DVal) : Prop where
  rows : G 1 = .vptr dRows 0
  pow : G 3 = .vptr dPw 0
  costs : G 0 = .vptr (defC.map dI) 0
  gt : GT G

set_option maxHeartbeats 4000000 in
theorem head30_spec {G : Nat → DVal} (hG : GC G) (H : DHeap) : DCalls Tryd.prog G 22 [] H (DRet (.bool true) H) := by
  have hz : [DVal.int IntKind.i64 0, DVal.int IntKind.i64 0, DVal.int IntKind.i64 0, DVal.int IntKind.i64 0, DVal.int IntKind.i64 0, DVal.int IntKind.i64 0, DVal.int IntKind.i64 0, DVal.int IntKind.i64 0, DVal.int IntKind.i64 0, DVal.int IntKind.i64 0, DVal.int IntKind.i64 0, DVal.int IntKind.i64 0, DVal.int IntKind.i64 0, DVal.int IntKind.i64 0, DVal.int IntKind.i64 0, DVal.int IntKind.i64 0, DVal.int IntKind.i64 0, DVal.int IntKind.i64 0, DVal.int IntKind.i64 0, DVal.int IntKind.i64 0, DVal.int IntKind.i64 0, DVal.int IntKind.i64 0, DVal.int IntKind.i64 0, DVal.int IntKind.i64 0, DVal.int IntKind.i64 0, DVal.int IntKind.i64 0, DVal.int IntKind.i64 0, DVal.int IntKind.i64 0, DVal.int IntKind.i64 0, DVal.int IntKind.i64 0, DVal.int IntKind.i64 0, DVal.int IntKind.i64 0, DVal.int IntKind.i64 0, DVal.int IntKind.i64 0, DVal.int IntKind.i64 0, DVal.int IntKind.i64 0, DVal.int IntKind.i64 0, DVal.int IntKind.i64 0, DVal.int IntKind.i64 0, DVal.int IntKind.i64 0, DVal.int IntKind.i64 0, DVal.int IntKind.i64 0, DVal.int IntKind.i64 0, DVal.int IntKind.i64 0, DVal.int IntKind.i64 0, DVal.int IntKind.i64 0, DVal.int IntKind.i64 0, DVal.int IntKind.i64 0, DVal.int IntKind.i64 0, DVal.int IntKind.i64 0, DVal.int IntKind.i64 0, DVal.int IntKind.i64 0, DVal.int IntKind.i64 0, DVal.int IntKind.i64 0, DVal.int IntKind.i64 0, DVal.int IntKind.i64 0, DVal.int IntKind.i64 0, DVal.int IntKind.i64 0] = zeroC.map dI := rfl
  have hl : (defC.map dI).length = 58 := rfl
  have ht : (defC.map dI).take 58 = defC.map dI := rfl
  have ha : (defC.map dI).all (fun d => d.one) = true := rfl
  have hd : (defC.map dI).drop 58 = [] := rfl
  have hzl : (zeroC.map dI).length = 58 := rfl
  have hza : (zeroC.map dI).all (fun d => d.one) = true := rfl
  have hzd : (zeroC.map dI).drop 58 = [] := rfl
  have hsl : (setDiv.map dI).length = 58 := rfl
  have hsa : (setDiv.map dI).all (fun d => d.one) = true := rfl
  have hg1 : (setDiv.map dI)[12]? = some (dI 12) := rfl
  have hg2 : (setDiv.map dI)[50]? = some (dI 30) := rfl
  refine dcalls_intro Tryd.func22 Tryd.call22 rfl (by kernel_rfl) ?_
  simp (disch := omega) only [go_sem, Nat.reduceEqDiff, Nat.reduceAdd, Nat.reduceMul, Nat.reduceSub, Nat.reduceLeDiff, ↓reduceIte, reduceCtorEq, Int.reduceAdd, Int.reduceSub, Int.reduceMul, Int.reduceNeg, Int.reduceToNat, List.reduceReplicate, String.reduceEq]
  refine (default_spec hG.costs _).mono ?_
  rintro _ H1 ⟨rfl, rfl⟩
  simp (disch := omega) only [go_sem, Nat.reduceEqDiff, Nat.reduceAdd, Nat.reduceMul, Nat.reduceSub, Nat.reduceLeDiff, ↓reduceIte, reduceCtorEq, Int.reduceAdd, Int.reduceSub, Int.reduceMul, Int.reduceNeg, Int.reduceToNat, List.reduceReplicate, String.reduceEq, dCs, DVal.cells]
  rw [hz]
  intro r1 hr1; dsimp only at hr1
  simp (disch := omega) only [go_sem, Nat.reduceEqDiff, Nat.reduceAdd, Nat.reduceMul, Nat.reduceSub, Nat.reduceLeDiff, ↓reduceIte, reduceCtorEq, Int.reduceAdd, Int.reduceSub, Int.reduceMul, Int.reduceNeg, Int.reduceToNat, List.reduceReplicate, String.reduceEq, hl, ht, ha, hd, hzl, hzd, List.append_nil]
  rw [show DVal.agg (defC.map dI) = dCs defC from rfl]
  refine (cost_spec hG.rows _ defC rfl 12 (by omega) (by omega)).mono ?_
  rintro _ H1 ⟨rfl, rfl⟩
  rw [show costD defC 12 = (10, 0) from rfl]
  simp (disch := omega) only [go_sem, Nat.reduceEqDiff, Nat.reduceAdd, Nat.reduceMul, Nat.reduceSub, Nat.reduceLeDiff, ↓reduceIte, reduceCtorEq, Int.reduceAdd, Int.reduceSub, Int.reduceMul, Int.reduceNeg, Int.reduceToNat, List.reduceReplicate, String.reduceEq, dCs, hl, ht]
  rw [show DVal.agg (defC.map dI) = dCs defC from rfl]
  refine (most_spec G _ defC rfl).mono ?_
  rintro _ H1 ⟨rfl, rfl⟩
  rw [show mostD defC = (30, 0) from rfl]
  simp (disch := omega) only [go_sem, Nat.reduceEqDiff, Nat.reduceAdd, Nat.reduceMul, Nat.reduceSub, Nat.reduceLeDiff, ↓reduceIte, reduceCtorEq, Int.reduceAdd, Int.reduceSub, Int.reduceMul, Int.reduceNeg, Int.reduceToNat, List.reduceReplicate, String.reduceEq, dCs, hl, ht]
  (intro a ha; dsimp only at ha; try simp only [upd_eq_none] at ha)
  (try simp (disch := omega) only [go_sem, Nat.reduceEqDiff, Nat.reduceAdd, Nat.reduceMul, Nat.reduceSub, Nat.reduceLeDiff, ↓reduceIte, reduceCtorEq, Int.reduceAdd, Int.reduceSub, Int.reduceMul, Int.reduceNeg, Int.reduceToNat, List.reduceReplicate, String.reduceEq, ha])
  refine DCalls.fzA a (by simp [upd, ha]) ?_
  (try simp (disch := omega) only [go_sem, Nat.reduceEqDiff, Nat.reduceAdd, Nat.reduceMul, Nat.reduceSub, Nat.reduceLeDiff, ↓reduceIte, reduceCtorEq, Int.reduceAdd, Int.reduceSub, Int.reduceMul, Int.reduceNeg, Int.reduceToNat, List.reduceReplicate, String.reduceEq, ha])
  rw [show DVal.agg (defC.map dI) = dCs defC from rfl]
  refine (takes_spec hG.rows _ defC rfl 3 (by omega) (by omega) [3, 5] (by decide) (by decide) 1 ⟨by omega, by omega⟩).mono ?_
  rintro _ H1 ⟨rfl, rfl⟩
  rw [show takesD defC 3 [3, 5] 1 = (1, 0) from rfl]
  simp (disch := omega) only [go_sem, Nat.reduceEqDiff, Nat.reduceAdd, Nat.reduceMul, Nat.reduceSub, Nat.reduceLeDiff, ↓reduceIte, reduceCtorEq, Int.reduceAdd, Int.reduceSub, Int.reduceMul, Int.reduceNeg, Int.reduceToNat, List.reduceReplicate, String.reduceEq, dCs, hl, ht]
  (intro b hb; dsimp only at hb; try simp only [upd_eq_none] at hb)
  (try simp (disch := omega) only [go_sem, Nat.reduceEqDiff, Nat.reduceAdd, Nat.reduceMul, Nat.reduceSub, Nat.reduceLeDiff, ↓reduceIte, reduceCtorEq, Int.reduceAdd, Int.reduceSub, Int.reduceMul, Int.reduceNeg, Int.reduceToNat, List.reduceReplicate, String.reduceEq, hb])
  refine DCalls.fzA b (by simp [upd, hb]) ?_
  (try simp (disch := omega) only [go_sem, Nat.reduceEqDiff, Nat.reduceAdd, Nat.reduceMul, Nat.reduceSub, Nat.reduceLeDiff, ↓reduceIte, reduceCtorEq, Int.reduceAdd, Int.reduceSub, Int.reduceMul, Int.reduceNeg, Int.reduceToNat, List.reduceReplicate, String.reduceEq, hb])
  rw [show DVal.agg (defC.map dI) = dCs defC from rfl]
  refine (takes_spec hG.rows _ defC rfl 50 (by omega) (by omega) [29] (by decide) (by decide) 7 ⟨by omega, by omega⟩).mono ?_
  rintro _ H1 ⟨rfl, rfl⟩
  rw [show takesD defC 50 [29] 7 = (1, 0) from rfl]
  simp (disch := omega) only [go_sem, Nat.reduceEqDiff, Nat.reduceAdd, Nat.reduceMul, Nat.reduceSub, Nat.reduceLeDiff, ↓reduceIte, reduceCtorEq, Int.reduceAdd, Int.reduceSub, Int.reduceMul, Int.reduceNeg, Int.reduceToNat, List.reduceReplicate, String.reduceEq, dCs, hl, ht]
  refine (read_spec hG.rows hG.pow hG.costs hG.gt _ [100, 105, 118, 32, 49, 50, 10] (by decide)).mono ?_
  rintro _ H1 ⟨rfl, rfl⟩
  rw [ex_read1]
  simp (disch := omega) only [go_sem, Nat.reduceEqDiff, Nat.reduceAdd, Nat.reduceMul, Nat.reduceSub, Nat.reduceLeDiff, ↓reduceIte, reduceCtorEq, Int.reduceAdd, Int.reduceSub, Int.reduceMul, Int.reduceNeg, Int.reduceToNat, List.reduceReplicate, String.reduceEq, dCs, hl, ht]
  rw [hz]
  intro r2 hr2; dsimp only at hr2
  have e1 : ¬ r1 = r2 := fun e => by subst e; simp [upd] at hr2
  have e2 : ¬ r2 = r1 := fun e => e1 e.symm
  simp (disch := omega) only [go_sem, Nat.reduceEqDiff, Nat.reduceAdd, Nat.reduceMul, Nat.reduceSub, Nat.reduceLeDiff, ↓reduceIte, reduceCtorEq, Int.reduceAdd, Int.reduceSub, Int.reduceMul, Int.reduceNeg, Int.reduceToNat, List.reduceReplicate, String.reduceEq, hz, hzl, hzd, hsl, hsa, List.append_nil, e1, e2, DVal.cells]
  refine (read_spec hG.rows hG.pow hG.costs hG.gt _ [100, 105, 118, 32, 48, 49, 50, 10] (by decide)).mono ?_
  rintro _ H1 ⟨rfl, rfl⟩
  rw [ex_read2]
  simp (disch := omega) only [go_sem, Nat.reduceEqDiff, Nat.reduceAdd, Nat.reduceMul, Nat.reduceSub, Nat.reduceLeDiff, ↓reduceIte, reduceCtorEq, Int.reduceAdd, Int.reduceSub, Int.reduceMul, Int.reduceNeg, Int.reduceToNat, List.reduceReplicate, String.reduceEq, dCs, hl, ht]
  rw [hz]
  intro r3 hr3; dsimp only at hr3
  have e3 : ¬ r1 = r3 := fun e => by subst e; simp [upd, e1] at hr3
  have e4 : ¬ r3 = r1 := fun e => e3 e.symm
  have e5 : ¬ r2 = r3 := fun e => by subst e; simp [upd] at hr3
  have e6 : ¬ r3 = r2 := fun e => e5 e.symm
  simp (disch := omega) only [go_sem, Nat.reduceEqDiff, Nat.reduceAdd, Nat.reduceMul, Nat.reduceSub, Nat.reduceLeDiff, ↓reduceIte, reduceCtorEq, Int.reduceAdd, Int.reduceSub, Int.reduceMul, Int.reduceNeg, Int.reduceToNat, List.reduceReplicate, String.reduceEq, hz, hzl, hzd, hsl, hsa, hza, List.append_nil, e1, e2, e3, e4, e5, e6, DVal.cells]
  refine (read_spec hG.rows hG.pow hG.costs hG.gt _ [100, 105, 118, 32, 49, 50] (by decide)).mono ?_
  rintro _ H1 ⟨rfl, rfl⟩
  rw [ex_read3]
  simp (disch := omega) only [go_sem, Nat.reduceEqDiff, Nat.reduceAdd, Nat.reduceMul, Nat.reduceSub, Nat.reduceLeDiff, ↓reduceIte, reduceCtorEq, Int.reduceAdd, Int.reduceSub, Int.reduceMul, Int.reduceNeg, Int.reduceToNat, List.reduceReplicate, String.reduceEq, dCs, hl, ht]
  rw [hz]
  intro r4 hr4; dsimp only at hr4
  have e7 : ¬ r1 = r4 := fun e => by subst e; simp [upd, e1, e3] at hr4
  have e8 : ¬ r4 = r1 := fun e => e7 e.symm
  have e9 : ¬ r2 = r4 := fun e => by subst e; simp [upd, e5] at hr4
  have e10 : ¬ r4 = r2 := fun e => e9 e.symm
  simp (disch := omega) only [go_sem, Nat.reduceEqDiff, Nat.reduceAdd, Nat.reduceMul, Nat.reduceSub, Nat.reduceLeDiff, ↓reduceIte, reduceCtorEq, Int.reduceAdd, Int.reduceSub, Int.reduceMul, Int.reduceNeg, Int.reduceToNat, List.reduceReplicate, String.reduceEq, hz, hzl, hzd, hsl, hsa, hza, List.append_nil, e1, e2, e3, e4, e5, e6, e7, e8, e9, e10, hl, ht, DVal.cells]
  rw [show DVal.agg (defC.map dI) = dCs defC from rfl]
  refine (cost_spec hG.rows _ defC rfl 0 (by omega) (by omega)).mono ?_
  rintro _ H1 ⟨rfl, rfl⟩
  rw [show costD defC 0 = (0, 2) from rfl]
  simp (disch := omega) only [go_sem, Nat.reduceEqDiff, Nat.reduceAdd, Nat.reduceMul, Nat.reduceSub, Nat.reduceLeDiff, ↓reduceIte, reduceCtorEq, Int.reduceAdd, Int.reduceSub, Int.reduceMul, Int.reduceNeg, Int.reduceToNat, List.reduceReplicate, String.reduceEq, dCs, hl, ht, e1, e2, e3, e4, e5, e6, e7, e8, e9, e10]
  rw [show DVal.agg (defC.map dI) = dCs defC from rfl]
  refine (cmay_spec G _ defC rfl).mono ?_
  rintro _ H1 ⟨rfl, rfl⟩
  rw [show mayC defC = true from rfl]
  simp (disch := omega) only [go_sem, Nat.reduceEqDiff, Nat.reduceAdd, Nat.reduceMul, Nat.reduceSub, Nat.reduceLeDiff, ↓reduceIte, reduceCtorEq, Int.reduceAdd, Int.reduceSub, Int.reduceMul, Int.reduceNeg, Int.reduceToNat, List.reduceReplicate, String.reduceEq, dCs, hl, ht, hsl, hg1, hg2, hz, e1, e2, e3, e4, e5, e6, e7, e8, e9, e10]
  rw [show DVal.agg (zeroC.map dI) = dCs zeroC from rfl]
  refine (cmay_spec G _ zeroC rfl).mono ?_
  rintro _ H1 ⟨rfl, rfl⟩
  rw [show mayC zeroC = false from rfl]
  simp (disch := omega) only [go_sem, Nat.reduceEqDiff, Nat.reduceAdd, Nat.reduceMul, Nat.reduceSub, Nat.reduceLeDiff, ↓reduceIte, reduceCtorEq, Int.reduceAdd, Int.reduceSub, Int.reduceMul, Int.reduceNeg, Int.reduceToNat, List.reduceReplicate, String.reduceEq]
  have k2 : H1 r2 = none := Sub.lo (show Sub H1 _ from (by repeat (first | exact Sub.refl _ | assumption | refine Sub.up ?_ (by assumption) _))) hr2
  have k3 : H1 r3 = none := Sub.lo (show Sub H1 _ from (by repeat (first | exact Sub.refl _ | assumption | refine Sub.up ?_ (by assumption) _))) hr3
  have k4 : H1 r4 = none := Sub.lo (show Sub H1 _ from (by repeat (first | exact Sub.refl _ | assumption | refine Sub.up ?_ (by assumption) _))) hr4
  exact DFin.sub (show Sub _ _ from (by repeat (first | exact Sub.refl _ | assumption | refine Sub.up ?_ (by assumption) _))) (DFin.refl ⟨rfl, rfl⟩)

theorem partB {xs : List DVal} {i : Nat} : partCells 1 (i * 1) xs (some false) = (xs.drop i).take 1 := by rw [Nat.mul_one]; rfl
theorem dEqIs_all (f : Nat → Option Bool) (p : Nat → Bool) : ∀ (l : List Nat), (∀ i ∈ l, f i = some (p i)) → dEqIs f l = some (l.all p)
  | [], _ => rfl
  | i :: l, h => by
    have h1 := dEqIs_all f p l fun j hj => h j (by simp [hj])
    simp only [dEqIs, h i (by simp), h1, List.all_cons]
    cases p i <;> rfl
theorem eq_costs {a b : List Int} (ha : a.length = 58) (hb : b.length = 58) (n : Nat) : dEqT Tryd.prog (n + 1 + 1) 23 (a.map dI) (b.map dI) = some (decide (a = b)) := by
  have hu : Tryd.prog.underlying 23 = some (.array 58 2) := by kernel_rfl
  have hu2 : Tryd.prog.underlying 2 = some (.int .i64) := by kernel_rfl
  have hc : Tryd.prog.cellsOf 2 = 1 := by kernel_rfl
  have hi : (Tryd.prog.info? 2).isSome = true := by kernel_rfl
  have hag : aggB Tryd.prog 2 = some false := by kernel_rfl
  rw [dEqT, hu]
  simp only [dEqTu, hi, if_true, hc, hag]
  rw [dEqIs_all _ (fun i => decide (a.getD i 0 = b.getD i 0)) (List.range 58) fun i hi => ?_]
  · congr 1
    rw [Bool.eq_iff_iff, List.all_eq_true, decide_eq_true_eq]
    constructor
    · intro h
      apply List.ext_getElem (by omega)
      intro i h1 h2
      have := h i (List.mem_range.2 (by omega))
      rw [decide_eq_true_eq] at this
      simpa [List.getD, List.getElem?_eq_getElem h1, List.getElem?_eq_getElem h2] using this
    · rintro rfl i _; simp
  · have hlt := List.mem_range.1 hi
    have g : ∀ c : List Int, c.length = 58 → partCells 1 (i * 1) (c.map dI) (some false) = [dI (c.getD i 0)] := fun c hc => by
      have hic : i < c.length := by omega
      have hlm : i < (c.map dI).length := by rw [List.length_map]; exact hic
      rw [partB, List.drop_eq_getElem_cons hlm, List.take_succ_cons, List.take_zero, List.getD, List.getElem?_eq_getElem hic]; simp
    rw [g a ha, g b hb, dEqT, hu2]
    simp [dEqTu, dEqTi]
end Go.Dl

-- Chapter 30: ClockCosts, ClockTakes, ClockText at the data level.
namespace Go.Dl
open Go Go.Proofs
set_option maxRecDepth 10000

theorem agg_eq {P : Program} {s : DS} {t : TypeId} {c : Bool} {dst : Option Nat} {xs ys : List DVal} {K : DK} {b : Bool} (h1 : aggB P t = some true) (h2 : P.eqGuardType P.depth t = false) (h3 : dEqT P 6 t xs ys = some b) : dBin P t c .eql dst (.agg xs) (.agg ys) K s = dput dst (.bool b) K s := by
  simp only [dBin, h1, h2, h3, eqOp, dEqP, true_and]
theorem agg_costs : aggB Tryd.prog 23 = some true := by kernel_rfl
theorem guard_costs : Tryd.prog.eqGuardType Tryd.prog.depth 23 = false := by kernel_rfl

theorem foldC_len : ∀ (l : List (List UInt8)) {st st' : RdC}, foldC st l = some st' → st.c.length = 58 → st'.c.length = 58
  | [], st, st', h, hc => by simp only [foldC] at h; cases h; exact hc
  | w :: l, st, st', h, hc => by
    simp only [foldC] at h
    cases hs : stepC st w with
    | none => rw [hs] at h; cases h
    | some s1 =>
      rw [hs] at h
      refine foldC_len l h ?_
      unfold stepC at hs
      split at hs
      · split at hs
        · cases hs
        · cases hs; simpa using hc
      · cases hs
theorem readCD_len (s : List UInt8) : (readCD s).1.length = 58 := by
  unfold readCD
  split
  · rename_i c h
    unfold readC rdC at h
    split at h
    · simp only [Option.map_eq_some_iff] at h
      obtain ⟨st, hst, rfl⟩ := h
      exact foldC_len _ hst rfl
    · cases h
  · rfl
theorem clockTakes_spec {G : Nat → DVal} (hG : GC G) (H : DHeap) (c : List Int) (hc : c.length = 58) (o : Int) (h0 : 0 ≤ o) (h1 : o < 256)
    (sc : List Int) (hs : sc.length ≤ 35184372088832) (hb : ∀ x ∈ sc, 0 ≤ x ∧ x < 256) (i : Int) (hi : I64 i) : DCalls Tryd.prog G 4 [dCs c, .int .u8 o, dB8 sc, dI i] H (DRet (.bool true) H) := by
  have hlen : (c.map dI).length = 58 := by rw [List.length_map, hc]
  have htk : (c.map dI).take 58 = c.map dI := List.take_of_length_le (by omega)
  refine dcalls_intro Tryd.func4 Tryd.call4 rfl (by kernel_rfl) ?_
  simp (disch := omega) only [go_sem, Nat.reduceEqDiff, Nat.reduceAdd, Nat.reduceMul, Nat.reduceSub, Nat.reduceLeDiff, ↓reduceIte, reduceCtorEq, Int.reduceAdd, Int.reduceSub, Int.reduceMul, Int.reduceNeg, Int.reduceToNat, List.reduceReplicate, String.reduceEq, dCs, DVal.cells]
  intro r hr; dsimp only at hr
  simp (disch := omega) only [go_sem, Nat.reduceEqDiff, Nat.reduceAdd, Nat.reduceMul, Nat.reduceSub, Nat.reduceLeDiff, ↓reduceIte, reduceCtorEq, Int.reduceAdd, Int.reduceSub, Int.reduceMul, Int.reduceNeg, Int.reduceToNat, List.reduceReplicate, String.reduceEq, hlen, htk]
  rw [show DVal.agg (c.map dI) = dCs c from rfl]
  refine (takes_spec hG.rows _ c hc o h0 h1 sc hs hb i hi).mono ?_
  rintro _ H1 ⟨rfl, rfl⟩
  simp (disch := omega) only [go_sem, Nat.reduceEqDiff, Nat.reduceAdd, Nat.reduceMul, Nat.reduceSub, Nat.reduceLeDiff, ↓reduceIte, reduceCtorEq, Int.reduceAdd, Int.reduceSub, Int.reduceMul, Int.reduceNeg, Int.reduceToNat, List.reduceReplicate, String.reduceEq, dCs, hlen, htk]
  rw [show DVal.agg (c.map dI) = dCs c from rfl]
  refine (rtakes_spec G _ c hc o h0 h1 sc hs hb i hi).mono ?_
  rintro _ H1 ⟨rfl, rfl⟩
  simp (disch := omega) only [go_sem, Nat.reduceEqDiff, Nat.reduceAdd, Nat.reduceMul, Nat.reduceSub, Nat.reduceLeDiff, ↓reduceIte, reduceCtorEq, Int.reduceAdd, Int.reduceSub, Int.reduceMul, Int.reduceNeg, Int.reduceToNat, List.reduceReplicate, String.reduceEq]
  refine (head30_spec hG _).mono ?_
  rintro _ H1 ⟨rfl, rfl⟩
  simp (disch := omega) only [go_sem, Nat.reduceEqDiff, Nat.reduceAdd, Nat.reduceMul, Nat.reduceSub, Nat.reduceLeDiff, ↓reduceIte, reduceCtorEq, Int.reduceAdd, Int.reduceSub, Int.reduceMul, Int.reduceNeg, Int.reduceToNat, List.reduceReplicate, String.reduceEq]
  exact DFin.dropA r hr (DFin.refl ⟨rfl, rfl⟩)

theorem clockText_spec {G : Nat → DVal} (hG : GC G) (H : DHeap) (c : List Int) (hc : c.length = 58) (s : List UInt8) (hs : s.length ≤ 9223372036854775807) : DCalls Tryd.prog G 6 [dCs c, .str s] H (DRet (.bool true) H) := by
  have hlen : (c.map dI).length = 58 := by rw [List.length_map, hc]
  have htk : (c.map dI).take 58 = c.map dI := List.take_of_length_le (by omega)
  refine dcalls_intro Tryd.func6 Tryd.call6 rfl (by kernel_rfl) ?_
  simp (disch := omega) only [go_sem, Nat.reduceEqDiff, Nat.reduceAdd, Nat.reduceMul, Nat.reduceSub, Nat.reduceLeDiff, ↓reduceIte, reduceCtorEq, Int.reduceAdd, Int.reduceSub, Int.reduceMul, Int.reduceNeg, Int.reduceToNat, List.reduceReplicate, String.reduceEq, dCs, DVal.cells]
  intro r hr; dsimp only at hr
  by_cases cl : 3000 < s.length
  · have cl' : (3000 : Int) < (s.length : Int) := by omega
    simp (disch := omega) only [go_sem, Nat.reduceEqDiff, Nat.reduceAdd, Nat.reduceMul, Nat.reduceSub, Nat.reduceLeDiff, ↓reduceIte, reduceCtorEq, Int.reduceAdd, Int.reduceSub, Int.reduceMul, Int.reduceNeg, Int.reduceToNat, List.reduceReplicate, String.reduceEq, cl']
    refine (head30_spec hG _).mono ?_
    rintro _ H1 ⟨rfl, rfl⟩
    simp (disch := omega) only [go_sem, Nat.reduceEqDiff, Nat.reduceAdd, Nat.reduceMul, Nat.reduceSub, Nat.reduceLeDiff, ↓reduceIte, reduceCtorEq, Int.reduceAdd, Int.reduceSub, Int.reduceMul, Int.reduceNeg, Int.reduceToNat, List.reduceReplicate, String.reduceEq]
    exact DFin.dropA r hr (DFin.refl ⟨rfl, rfl⟩)
  have cl' : ¬ (3000 : Int) < (s.length : Int) := by omega
  have hz : [DVal.int IntKind.i64 0, DVal.int IntKind.i64 0, DVal.int IntKind.i64 0, DVal.int IntKind.i64 0, DVal.int IntKind.i64 0, DVal.int IntKind.i64 0, DVal.int IntKind.i64 0, DVal.int IntKind.i64 0, DVal.int IntKind.i64 0, DVal.int IntKind.i64 0, DVal.int IntKind.i64 0, DVal.int IntKind.i64 0, DVal.int IntKind.i64 0, DVal.int IntKind.i64 0, DVal.int IntKind.i64 0, DVal.int IntKind.i64 0, DVal.int IntKind.i64 0, DVal.int IntKind.i64 0, DVal.int IntKind.i64 0, DVal.int IntKind.i64 0, DVal.int IntKind.i64 0, DVal.int IntKind.i64 0, DVal.int IntKind.i64 0, DVal.int IntKind.i64 0, DVal.int IntKind.i64 0, DVal.int IntKind.i64 0, DVal.int IntKind.i64 0, DVal.int IntKind.i64 0, DVal.int IntKind.i64 0, DVal.int IntKind.i64 0, DVal.int IntKind.i64 0, DVal.int IntKind.i64 0, DVal.int IntKind.i64 0, DVal.int IntKind.i64 0, DVal.int IntKind.i64 0, DVal.int IntKind.i64 0, DVal.int IntKind.i64 0, DVal.int IntKind.i64 0, DVal.int IntKind.i64 0, DVal.int IntKind.i64 0, DVal.int IntKind.i64 0, DVal.int IntKind.i64 0, DVal.int IntKind.i64 0, DVal.int IntKind.i64 0, DVal.int IntKind.i64 0, DVal.int IntKind.i64 0, DVal.int IntKind.i64 0, DVal.int IntKind.i64 0, DVal.int IntKind.i64 0, DVal.int IntKind.i64 0, DVal.int IntKind.i64 0, DVal.int IntKind.i64 0, DVal.int IntKind.i64 0, DVal.int IntKind.i64 0, DVal.int IntKind.i64 0, DVal.int IntKind.i64 0, DVal.int IntKind.i64 0, DVal.int IntKind.i64 0] = zeroC.map dI := rfl
  have hzl : (zeroC.map dI).length = 58 := rfl
  have hzd : (zeroC.map dI).drop 58 = [] := rfl
  have hdl : (readCD s).1.length = 58 := readCD_len s
  have hdl2 : ((readCD s).1.map dI).length = 58 := by rw [List.length_map, hdl]
  have hda : ((readCD s).1.map dI).all (fun d => d.one) = true := ints_one _
  have hdt : ((readCD s).1.map dI).take 58 = (readCD s).1.map dI := List.take_of_length_le (by omega)
  simp (disch := omega) only [go_sem, Nat.reduceEqDiff, Nat.reduceAdd, Nat.reduceMul, Nat.reduceSub, Nat.reduceLeDiff, ↓reduceIte, reduceCtorEq, Int.reduceAdd, Int.reduceSub, Int.reduceMul, Int.reduceNeg, Int.reduceToNat, List.reduceReplicate, String.reduceEq, hlen, htk, cl']
  rw [show DVal.agg (c.map dI) = dCs c from rfl]
  refine (textC_spec hG.rows hG.pow _ c hc).mono ?_
  rintro _ H1 ⟨rfl, rfl⟩
  simp (disch := omega) only [go_sem, Nat.reduceEqDiff, Nat.reduceAdd, Nat.reduceMul, Nat.reduceSub, Nat.reduceLeDiff, ↓reduceIte, reduceCtorEq, Int.reduceAdd, Int.reduceSub, Int.reduceMul, Int.reduceNeg, Int.reduceToNat, List.reduceReplicate, String.reduceEq, dCs, hlen, htk]
  rw [show DVal.agg (c.map dI) = dCs c from rfl]
  refine (rtextC_spec G _ c hc).mono ?_
  rintro _ H1 ⟨rfl, rfl⟩
  simp (disch := omega) only [go_sem, Nat.reduceEqDiff, Nat.reduceAdd, Nat.reduceMul, Nat.reduceSub, Nat.reduceLeDiff, ↓reduceIte, reduceCtorEq, Int.reduceAdd, Int.reduceSub, Int.reduceMul, Int.reduceNeg, Int.reduceToNat, List.reduceReplicate, String.reduceEq, dCs, hlen, htk]
  refine (read_spec hG.rows hG.pow hG.costs hG.gt _ s (by omega)).mono ?_
  rintro _ H1 ⟨rfl, rfl⟩
  simp (disch := omega) only [go_sem, Nat.reduceEqDiff, Nat.reduceAdd, Nat.reduceMul, Nat.reduceSub, Nat.reduceLeDiff, ↓reduceIte, reduceCtorEq, Int.reduceAdd, Int.reduceSub, Int.reduceMul, Int.reduceNeg, Int.reduceToNat, List.reduceReplicate, String.reduceEq, dCs, DVal.cells]
  rw [hz]
  intro r1 hr1; dsimp only at hr1
  simp (disch := omega) only [go_sem, Nat.reduceEqDiff, Nat.reduceAdd, Nat.reduceMul, Nat.reduceSub, Nat.reduceLeDiff, ↓reduceIte, reduceCtorEq, Int.reduceAdd, Int.reduceSub, Int.reduceMul, Int.reduceNeg, Int.reduceToNat, List.reduceReplicate, String.reduceEq, hz, hzl, hzd, hdl2, hda, List.append_nil]
  refine (rread_spec G _ s (by omega)).mono ?_
  rintro _ H1 ⟨rfl, rfl⟩
  simp (disch := omega) only [go_sem, Nat.reduceEqDiff, Nat.reduceAdd, Nat.reduceMul, Nat.reduceSub, Nat.reduceLeDiff, ↓reduceIte, reduceCtorEq, Int.reduceAdd, Int.reduceSub, Int.reduceMul, Int.reduceNeg, Int.reduceToNat, List.reduceReplicate, String.reduceEq, dCs, DVal.cells]
  rw [hz]
  intro r2 hr2; dsimp only at hr2
  obtain ⟨m2, m1, hr2'⟩ := upd_eq_none.1 hr2
  simp (disch := omega) only [go_sem, Nat.reduceEqDiff, Nat.reduceAdd, Nat.reduceMul, Nat.reduceSub, Nat.reduceLeDiff, ↓reduceIte, reduceCtorEq, Int.reduceAdd, Int.reduceSub, Int.reduceMul, Int.reduceNeg, Int.reduceToNat, List.reduceReplicate, String.reduceEq, hz, hzl, hzd, hdl2, hda, hdt, m1, m2, List.append_nil, agg_eq agg_costs guard_costs (eq_costs hdl hdl 4)]
  refine (head30_spec hG _).mono ?_
  rintro _ H1 ⟨rfl, rfl⟩
  simp (disch := omega) only [go_sem, Nat.reduceEqDiff, Nat.reduceAdd, Nat.reduceMul, Nat.reduceSub, Nat.reduceLeDiff, ↓reduceIte, reduceCtorEq, Int.reduceAdd, Int.reduceSub, Int.reduceMul, Int.reduceNeg, Int.reduceToNat, List.reduceReplicate, String.reduceEq]
  have hr1' : H r1 = none := Sub.lo (show Sub H _ from (by repeat (first | exact Sub.refl _ | assumption | refine Sub.up ?_ (by assumption) _))) hr1
  have hr2'' : H r2 = none := Sub.lo (show Sub H _ from (by repeat (first | exact Sub.refl _ | assumption | refine Sub.up ?_ (by assumption) _))) hr2
  exact DFin.sub (show Sub H _ from (by repeat (first | exact Sub.refl _ | assumption | refine Sub.up ?_ (by assumption) _))) (DFin.refl ⟨rfl, rfl⟩)

theorem clockCosts_spec {G : Nat → DVal} (hG : GC G) (H : DHeap) (c : List Int) (hc : c.length = 58) (o : Int) (h0 : 0 ≤ o) (h1 : o < 256) : DCalls Tryd.prog G 3 [dCs c, .int .u8 o] H (DRet (.bool true) H) := by
  have hlen : (c.map dI).length = 58 := by rw [List.length_map, hc]
  have htk : (c.map dI).take 58 = c.map dI := List.take_of_length_le (by omega)
  refine dcalls_intro Tryd.func3 Tryd.call3 rfl (by kernel_rfl) ?_
  simp (disch := omega) only [go_sem, Nat.reduceEqDiff, Nat.reduceAdd, Nat.reduceMul, Nat.reduceSub, Nat.reduceLeDiff, ↓reduceIte, reduceCtorEq, Int.reduceAdd, Int.reduceSub, Int.reduceMul, Int.reduceNeg, Int.reduceToNat, List.reduceReplicate, String.reduceEq, dCs, DVal.cells]
  intro r hr; dsimp only at hr
  simp (disch := omega) only [go_sem, Nat.reduceEqDiff, Nat.reduceAdd, Nat.reduceMul, Nat.reduceSub, Nat.reduceLeDiff, ↓reduceIte, reduceCtorEq, Int.reduceAdd, Int.reduceSub, Int.reduceMul, Int.reduceNeg, Int.reduceToNat, List.reduceReplicate, String.reduceEq, hlen, htk]
  rw [show DVal.agg (c.map dI) = dCs c from rfl]
  refine (cost_spec hG.rows _ c hc o h0 h1).mono ?_
  rintro _ H1 ⟨rfl, rfl⟩
  simp (disch := omega) only [go_sem, Nat.reduceEqDiff, Nat.reduceAdd, Nat.reduceMul, Nat.reduceSub, Nat.reduceLeDiff, ↓reduceIte, reduceCtorEq, Int.reduceAdd, Int.reduceSub, Int.reduceMul, Int.reduceNeg, Int.reduceToNat, List.reduceReplicate, String.reduceEq, dCs, hlen, htk]
  rw [show DVal.agg (c.map dI) = dCs c from rfl]
  refine (rcost_spec G _ c hc o h0 h1).mono ?_
  rintro _ H1 ⟨rfl, rfl⟩
  simp (disch := omega) only [go_sem, Nat.reduceEqDiff, Nat.reduceAdd, Nat.reduceMul, Nat.reduceSub, Nat.reduceLeDiff, ↓reduceIte, reduceCtorEq, Int.reduceAdd, Int.reduceSub, Int.reduceMul, Int.reduceNeg, Int.reduceToNat, List.reduceReplicate, String.reduceEq, dCs, hlen, htk]
  rw [show DVal.agg (c.map dI) = dCs c from rfl]
  refine (most_spec G _ c hc).mono ?_
  rintro _ H1 ⟨rfl, rfl⟩
  simp (disch := omega) only [go_sem, Nat.reduceEqDiff, Nat.reduceAdd, Nat.reduceMul, Nat.reduceSub, Nat.reduceLeDiff, ↓reduceIte, reduceCtorEq, Int.reduceAdd, Int.reduceSub, Int.reduceMul, Int.reduceNeg, Int.reduceToNat, List.reduceReplicate, String.reduceEq, dCs, hlen, htk]
  rw [show DVal.agg (c.map dI) = dCs c from rfl]
  refine (rmost_spec G _ c hc).mono ?_
  rintro _ H1 ⟨rfl, rfl⟩
  simp (disch := omega) only [go_sem, Nat.reduceEqDiff, Nat.reduceAdd, Nat.reduceMul, Nat.reduceSub, Nat.reduceLeDiff, ↓reduceIte, reduceCtorEq, Int.reduceAdd, Int.reduceSub, Int.reduceMul, Int.reduceNeg, Int.reduceToNat, List.reduceReplicate, String.reduceEq, dCs, hlen, htk]
  refine dwp_draws (by kernel_rfl) (.take 0 (.take 2 (.go 1 [2] (.go 3 [0] (.take 4 (.take 5 (.go 6 [2, 0] (.go 7 [2, 0] (.take 8 (.take 9 (.take 10 (.take 11 (.take 12 (.take 13 (.take 14 (.take 15 (.take 16 (.take 17 (.take 18 (.take 19 (.take 20 (.take 21 (.take 22 (.take 23 (.take 24 (.take 25 (.take 26 (.take 27 (.take 28 (.take 29 (.take 30 (.go 31 [2, 0] (.take 32 (.take 33 .done)))))))))))))))))))))))))))))))))) (by kernel_rfl) ?_
  simp (disch := omega) only [go_sem, Nat.reduceEqDiff, Nat.reduceAdd, Nat.reduceMul, Nat.reduceSub, Nat.reduceLeDiff, ↓reduceIte, reduceCtorEq, Int.reduceAdd, Int.reduceSub, Int.reduceMul, Int.reduceNeg, Int.reduceToNat, List.reduceReplicate, String.reduceEq, dCs, hlen, htk]
  rw [show DVal.agg (c.map dI) = dCs c from rfl]
  refine (cmay_spec G _ c hc).mono ?_
  rintro _ H1 ⟨rfl, rfl⟩
  simp (disch := omega) only [go_sem, Nat.reduceEqDiff, Nat.reduceAdd, Nat.reduceMul, Nat.reduceSub, Nat.reduceLeDiff, ↓reduceIte, reduceCtorEq, Int.reduceAdd, Int.reduceSub, Int.reduceMul, Int.reduceNeg, Int.reduceToNat, List.reduceReplicate, String.reduceEq, dCs, hlen, htk]
  rw [show DVal.agg (c.map dI) = dCs c from rfl]
  refine (rmayC_spec G _ c hc).mono ?_
  rintro _ H1 ⟨rfl, rfl⟩
  simp (disch := omega) only [go_sem, Nat.reduceEqDiff, Nat.reduceAdd, Nat.reduceMul, Nat.reduceSub, Nat.reduceLeDiff, ↓reduceIte, reduceCtorEq, Int.reduceAdd, Int.reduceSub, Int.reduceMul, Int.reduceNeg, Int.reduceToNat, List.reduceReplicate, String.reduceEq, dCs, hlen, htk]
  refine (default_spec hG.costs _).mono ?_
  rintro _ H1 ⟨rfl, rfl⟩
  simp (disch := omega) only [go_sem, Nat.reduceEqDiff, Nat.reduceAdd, Nat.reduceMul, Nat.reduceSub, Nat.reduceLeDiff, ↓reduceIte, reduceCtorEq, Int.reduceAdd, Int.reduceSub, Int.reduceMul, Int.reduceNeg, Int.reduceToNat, List.reduceReplicate, String.reduceEq, dCs, hlen, htk]
  refine (rdefault_spec G _).mono ?_
  rintro _ H1 ⟨rfl, rfl⟩
  simp (disch := omega) only [go_sem, Nat.reduceEqDiff, Nat.reduceAdd, Nat.reduceMul, Nat.reduceSub, Nat.reduceLeDiff, ↓reduceIte, reduceCtorEq, Int.reduceAdd, Int.reduceSub, Int.reduceMul, Int.reduceNeg, Int.reduceToNat, List.reduceReplicate, String.reduceEq, dCs, hlen, htk, agg_eq agg_costs guard_costs (eq_costs defC_length defC_length 4)]
  refine (head30_spec hG _).mono ?_
  rintro _ H1 ⟨rfl, rfl⟩
  simp (disch := omega) only [go_sem, Nat.reduceEqDiff, Nat.reduceAdd, Nat.reduceMul, Nat.reduceSub, Nat.reduceLeDiff, ↓reduceIte, reduceCtorEq, Int.reduceAdd, Int.reduceSub, Int.reduceMul, Int.reduceNeg, Int.reduceToNat, List.reduceReplicate, String.reduceEq]
  exact DFin.dropA r hr (DFin.refl ⟨rfl, rfl⟩)
end Go.Dl

-- Chapters 30, 22: the reading of the package's variables and of costs.
namespace Go.Dl
open Go Go.RowKit Go.Proofs Go.Proofs.YtbefgogblpebfaaDoor
set_option maxRecDepth 100000

theorem laidOut : laidOutB Tryd.prog = true := by kernel_rfl
theorem csize_shaped {P : Program} {w : World} {g : Nat} {t : TypeId} {zero : Array Value} (h : w.ShapedOpen P) (hg : g < P.globals.size)
    (h0 : ((begin P (fun _ _ => 0) default).world.heap[g]?).bind Obj.row? = some (zero, t)) : csize w.heap[g]? = some zero.size := by
  obtain ⟨cs, hh, hs, _⟩ := h.1 g zero t hg h0
  rw [hh]; simp [csize, hs]
theorem laid_exact {P : Program} {w : World} {laid : List (String × DataW Unit)} {n : String} {d : DataW Unit} {g : Nat} (hl : laidOutB P = true) (h : laidMet P laid w) (hm : (n, d) ∈ laid) (hd : litsB d = true) (hg : P.globalNamed n = some g)
    (hgt : isVar P (((P.globals[g]?).map (·.type)).getD 0) = true) : csize w.heap[g]? = some (litCells d).length := by
  obtain ⟨g', t, cs, fuel, p, h1, h2, h3, h4, _⟩ := laid_at h hm
  rw [hg] at h1; cases h1
  rw [h2] at hgt
  have hc := trod_lits hl fuel t cs.toList d p hgt hd h4
  unfold World.var? at h3
  rw [hg] at h3
  simp only [Option.bind_some] at h3
  split at h3
  · rename_i c t' fz ho
    cases h3
    rw [ho]
    simp only [csize, Option.some.injEq]
    rw [← hc, Array.length_toList]
  · cases h3
theorem ofVals_length : ∀ l : List Value, (ofVals l).length = l.length
  | [] => rfl
  | _ :: l => by simp [ofVals, ofVals_length l]

theorem e_rows : ofVals (litCells Rows.laid_ceiling_insn_rows) = dRows := by kernel_rfl
theorem e_costs : ofVals (litCells Rows.laid_ceiling_clock_costs) = defC.map dI := by kernel_rfl
theorem e_pow : ofVals (litCells Rows.laid_internal_strconv_uint64pow10) = dPw := by kernel_rfl
theorem e_space : ofVals (litCells Rows.laid_strings_asciiSpace) = Lib.asciiSpaceTab.map fun z => DVal.int .u8 z := by kernel_rfl

/-- The variables that all rows of this seat list. -/
theorem gsome {laid : List (String × DataW Unit)} {W : World} (hL : laidMetH Tryd.prog laid W) (hs : W.ShapedOpen Tryd.prog) (hh : (laid.filter fun x => x.2.handleName?.isSome) = [])
    (m1 : ("ceiling/insn.rows", Rows.laid_ceiling_insn_rows) ∈ laid) (m2 : ("internal/strconv.uint64pow10", Rows.laid_internal_strconv_uint64pow10) ∈ laid)
    (m3 : ("strconv.ErrSyntax", Rows.laid_strconv_ErrSyntax) ∈ laid) (m4 : ("strconv.ErrRange", Rows.laid_strconv_ErrRange) ∈ laid)
    (g2 : Nat) (d2 : DataW Unit) (n2 : String) (m5 : (n2, d2) ∈ laid) (l2 : litsB d2 = true) (hn2 : Tryd.prog.globalNamed n2 = some g2) (v2 : isVar Tryd.prog (((Tryd.prog.globals[g2]?).map (·.type)).getD 0) = true)
    (ne : g2 ≠ 1 ∧ g2 ≠ 3 ∧ g2 ≠ 4 ∧ g2 ≠ 5 ∧ g2 ≠ 6) :
    ∃ G, (G 1 = .vptr dRows 0 ∧ G 3 = .vptr dPw 0 ∧ GT G ∧ G g2 = .vptr (ofVals (litCells d2)) 0) ∧ GOk G W (fun _ => none) := by
  have hL' : laidMet Tryd.prog laid W := by
    unfold laidMetH at hL
    rw [hh] at hL
    exact hL
  have r1 := laid_rel laidOut hL' m1 (by kernel_rfl) (show Tryd.prog.globalNamed "ceiling/insn.rows" = some 1 by kernel_rfl) (by kernel_rfl)
  have x1 := laid_exact laidOut hL' m1 (by kernel_rfl) (show Tryd.prog.globalNamed "ceiling/insn.rows" = some 1 by kernel_rfl) (by kernel_rfl)
  have r2 := laid_rel laidOut hL' m2 (by kernel_rfl) (show Tryd.prog.globalNamed "internal/strconv.uint64pow10" = some 3 by kernel_rfl) (by kernel_rfl)
  have x2 := laid_exact laidOut hL' m2 (by kernel_rfl) (show Tryd.prog.globalNamed "internal/strconv.uint64pow10" = some 3 by kernel_rfl) (by kernel_rfl)
  have r5 := laid_rel laidOut hL' m5 l2 hn2 v2
  have x5 := laid_exact laidOut hL' m5 l2 hn2 v2
  obtain ⟨t3, a3, r3⟩ := laid_err hL' m3 (show Tryd.prog.globalNamed "strconv.ErrSyntax" = some 5 by kernel_rfl)
  obtain ⟨t4, a4, r4⟩ := laid_err hL' m4 (show Tryd.prog.globalNamed "strconv.ErrRange" = some 6 by kernel_rfl)
  have x3 : csize W.heap[5]? = some 1 := csize_shaped (t := 92) (zero := #[.nilIface]) hs (of_decide_eq_true (by kernel_rfl)) (by kernel_rfl)
  have x4 : csize W.heap[6]? = some 1 := csize_shaped (t := 92) (zero := #[.nilIface]) hs (of_decide_eq_true (by kernel_rfl)) (by kernel_rfl)
  have x6 : csize W.heap[4]? = some 1 := csize_shaped (t := 3) (zero := #[.int .i64 0]) hs (of_decide_eq_true (by kernel_rfl)) (by kernel_rfl)
  obtain ⟨m, hm⟩ : ∃ m, W.cell? ⟨4, 0, none⟩ = some (.int .i64 m) := cell_of_shapedOpen_int (t := 3) (zero := #[.int .i64 0]) hs (of_decide_eq_true (by kernel_rfl)) (by kernel_rfl) rfl (by kernel_rfl) (by kernel_rfl) Tryd.underlying3
  rw [e_rows] at r1
  rw [e_pow] at r2
  obtain ⟨n1, n2', n3, n4, n5⟩ := ne
  refine ⟨fun g => if g = g2 then .vptr (ofVals (litCells d2)) 0 else if g = 1 then .vptr dRows 0 else if g = 3 then .vptr dPw 0 else if g = 5 then .vptr [.iface t3 (.raw (.pointer (some a3)))] 0 else if g = 6 then .vptr [.iface t4 (.raw (.pointer (some a4)))] 0 else if g = 4 then .vptr [.int .i64 m] 0 else .optr g 0,
    ⟨by simp [n1.symm], by simp [n2'.symm], ⟨⟨m, by simp [n3.symm]⟩, ⟨t3, .raw (.pointer (some a3)), by simp [n4.symm]⟩, ⟨t4, .raw (.pointer (some a4)), by simp [n5.symm]⟩⟩, by simp⟩, ⟨fun g => ?_, fun g cs e => ?_⟩⟩
  · show Rel W _ (if g = g2 then _ else _) _
    split
    · rename_i e; subst e; exact r5
    split
    · rename_i e; subst e; exact r1
    split
    · rename_i e; subst e; exact r2
    split
    · rename_i e; subst e; exact r3
    split
    · rename_i e; subst e; exact r4
    split
    · rename_i e; subst e
      simp only [Rel, RelL]
      refine ⟨4, 0, [.int .i64 m], rfl, .inr ⟨rfl, fun i x hx => ?_⟩, _, _, rfl, rfl, rfl⟩
      cases i with
      | zero => simp at hx; subst hx; exact hm
      | succ i => simp at hx
    · simp [Rel]
  · change (if g = g2 then _ else _) = _ at e
    split at e
    · rename_i e'; subst e'; cases e; rw [x5, ofVals_length]
    split at e
    · rename_i e'; subst e'; cases e; rw [x1, ← e_rows, ofVals_length]
    split at e
    · rename_i e'; subst e'; cases e; rw [x2, ← e_pow, ofVals_length]
    split at e
    · rename_i e'; subst e'; cases e; exact x3
    split at e
    · rename_i e'; subst e'; cases e; exact x4
    split at e
    · rename_i e'; subst e'; cases e; exact x6
    · cases e
theorem gc_of {laid : List (String × DataW Unit)} {W : World} (hL : laidMetH Tryd.prog laid W) (hs : W.ShapedOpen Tryd.prog) (hh : (laid.filter fun x => x.2.handleName?.isSome) = [])
    (m1 : ("ceiling/insn.rows", Rows.laid_ceiling_insn_rows) ∈ laid) (m2 : ("internal/strconv.uint64pow10", Rows.laid_internal_strconv_uint64pow10) ∈ laid)
    (m3 : ("strconv.ErrSyntax", Rows.laid_strconv_ErrSyntax) ∈ laid) (m4 : ("strconv.ErrRange", Rows.laid_strconv_ErrRange) ∈ laid) (m5 : ("ceiling/clock.costs", Rows.laid_ceiling_clock_costs) ∈ laid) : ∃ G, GC G ∧ GOk G W (fun _ => none) := by
  obtain ⟨G, ⟨h1, h2, h3, h4⟩, h5⟩ := gsome hL hs hh m1 m2 m3 m4 0 _ _ m5 (by kernel_rfl) (show Tryd.prog.globalNamed "ceiling/clock.costs" = some 0 by kernel_rfl) (by kernel_rfl) (by decide)
  rw [e_costs] at h4
  exact ⟨G, ⟨h1, h2, h4, h3⟩, h5⟩

section
variable {H : Type} {w : World}
theorem allG_all {α : Type} {g : α → DataW H → Prop} {p : α → Prop} (hp : ∀ x d, g x d → p x) : ∀ {xs : List α} {ds : List (DataW H)}, AllG g xs ds → ∀ x ∈ xs, p x
  | [], _, _, x, hx => by cases hx
  | _ :: _, [], h, _, _ => h.elim
  | y :: xs, d :: ds, h, x, hx => by
    rcases List.mem_cons.1 hx with rfl | hx
    · exact hp _ _ h.1
    · exact allG_all hp h.2 x hx
theorem slG_all {α : Type} {g : α → DataW H → Prop} {p : α → Prop} (hp : ∀ x d, g x d → p x) {xs : List α} {d : DataW H} (h : SlG g xs d) : ∀ x ∈ xs, p x := by
  rcases h with ⟨rfl, rfl⟩ | ⟨es, sp, rfl, _, h⟩
  · intro x hx; cases hx
  · exact allG_all hp h
theorem reads_costs : Reads Tryd.prog H w 23 (List Int) (fun c => c.map dI) (fun c d => c.length = 58 ∧ ∀ x ∈ c, I64 x) := by
  have h := reads_array (H := H) (w := w) Tryd.underlying23 (by kernel_rfl) (reads_int Tryd.underlying2)
  intro enc base sp held fuel cs d ps hh
  obtain ⟨xs, ⟨ds, hd, hl, hg⟩, hr⟩ := h enc base sp held fuel cs d ps hh
  refine ⟨xs, ⟨hl, ?_⟩, ?_⟩
  · exact allG_all (p := I64) (fun x d h => by have := wf_int h.1; exact this) hg
  · have e : xs.flatMap (fun n => [DVal.int IntKind.i64 n]) = xs.map dI := by rw [List.map_eq_flatMap]
    dsimp only at hr ⊢
    rw [← e]; exact hr
end
end Go.Dl

-- Chapter 30: a world in which the package's variables hold what their text lays.
namespace Go.Dl
open Go Go.RowKit Go.Proofs Go.Proofs.YtbefgogblpebfaaDoor
def bytesV (l : List UInt8) : Value := .string ⟨⟨l⟩⟩
noncomputable def putV (h : Array Obj) (g : Nat) (cs : Array Value) : Array Obj := h.modify g fun
  | .cells _ t frozen => .cells cs t frozen
  | o => o
def zArr : Array Value := Array.replicate 58 (.int .i64 0)
def zData {H : Type} : List (DataW H) := List.replicate 58 (.lit (.int .i64 0))
noncomputable def world30 (os : Os) : World :=
  let N := (World.settled Tryd.prog os).heap.size
  let w0 := World.holding Tryd.prog os ⟨#[.cells #[.string ⟨#[105, 110, 118, 97, 108, 105, 100, 32, 115, 121, 110, 116, 97, 120]⟩] 197, .cells #[.string ⟨#[118, 97, 108, 117, 101, 32, 111, 117, 116, 32, 111, 102, 32, 114, 97, 110, 103, 101]⟩] 197], #[], []⟩
  let h0 := putV w0.heap 0 (litCells Rows.laid_ceiling_clock_costs).toArray
  let h1 := putV h0 1 (litCells Rows.laid_ceiling_insn_rows).toArray
  let h2 := putV h1 3 (litCells Rows.laid_internal_strconv_uint64pow10).toArray
  let h3 := putV h2 5 #[.iface 195 (.pointer (some ⟨N, 0, none⟩))]
  let h4 := putV h3 6 #[.iface 195 (.pointer (some ⟨N + 1, 0, none⟩))]
  let h5 := putV h4 8 (litCells Rows.laid_math_bits_deBruijn32tab).toArray
  let h6 := putV h5 9 (litCells Rows.laid_math_bits_deBruijn64tab).toArray
  { w0 with heap := h6 }
end Go.Dl

-- Chapter 30: ClockBounds, ClockBack at the data level.
namespace Go.Dl
open Go Go.Proofs
set_option maxRecDepth 10000

theorem takesD_ok {c : List Int} {o : Int} {sc : List Int} {i : Int} (h : (isO o && mayC c && decide (0 ≤ i)) = true) : takesD c o sc i = (if sc = [] then c.getD o.toNat 0 else c.getD o.toNat 0 - (sc.getD (i.toNat % sc.length) 0).tmod (c.getD o.toNat 0), 0) := by
  rw [takesD, if_pos h]
theorem takesD_zero {c : List Int} {o : Int} {n : Nat} {i : Int} (h : (isO o && mayC c && decide (0 ≤ i)) = true) : takesD c o (List.replicate n 0) i = (c.getD o.toNat 0, 0) := by
  rw [takesD_ok h]
  split
  · rfl
  · have : (List.replicate n (0 : Int)).getD (i.toNat % (List.replicate n (0 : Int)).length) 0 = 0 := by
      simp only [List.getD, List.getElem?_replicate]; split <;> rfl
    rw [this, Int.zero_tmod, Int.sub_zero]
theorem maxL_ge {l : List Int} {x : Int} (h : x ∈ l) : x ≤ maxL l := by
  cases l with
  | nil => cases h
  | cons y l =>
    have := (foldl_max_le (l.foldl max y) l y).1 (Int.le_refl _)
    rcases List.mem_cons.1 h with rfl | h
    · exact this.1
    · exact this.2 x h

theorem clockBounds_spec {G : Nat → DVal} (hG : GC G) (H : DHeap) (c : List Int) (hc : c.length = 58) (o : Int) (h0 : 0 ≤ o) (h1 : o < 256)
    (sc : List Int) (hs : sc.length ≤ 35184372088832) (hb : ∀ x ∈ sc, 0 ≤ x ∧ x < 256) (i : Int) (hi : I64 i) : DCalls Tryd.prog G 5 [dCs c, .int .u8 o, dB8 sc, dI i] H (DRet (.bool true) H) := by
  have hlen : (c.map dI).length = 58 := by rw [List.length_map, hc]
  have htk : (c.map dI).take 58 = c.map dI := List.take_of_length_le (by omega)
  have hi1 := hi.1
  have hi2 := hi.2
  refine dcalls_intro Tryd.func5 Tryd.call5 rfl (by kernel_rfl) ?_
  simp (disch := omega) only [go_sem, Nat.reduceEqDiff, Nat.reduceAdd, Nat.reduceMul, Nat.reduceSub, Nat.reduceLeDiff, ↓reduceIte, reduceCtorEq, Int.reduceAdd, Int.reduceSub, Int.reduceMul, Int.reduceNeg, Int.reduceToNat, List.reduceReplicate, String.reduceEq, dCs, DVal.cells]
  intro r hr; dsimp only at hr
  simp (disch := omega) only [go_sem, Nat.reduceEqDiff, Nat.reduceAdd, Nat.reduceMul, Nat.reduceSub, Nat.reduceLeDiff, ↓reduceIte, reduceCtorEq, Int.reduceAdd, Int.reduceSub, Int.reduceMul, Int.reduceNeg, Int.reduceToNat, List.reduceReplicate, String.reduceEq, hlen, htk]
  rw [show DVal.agg (c.map dI) = dCs c from rfl]
  refine (takes_spec hG.rows _ c hc o h0 h1 sc hs hb i hi).mono ?_
  rintro _ H1 ⟨rfl, rfl⟩
  simp (disch := omega) only [go_sem, Nat.reduceEqDiff, Nat.reduceAdd, Nat.reduceMul, Nat.reduceSub, Nat.reduceLeDiff, ↓reduceIte, reduceCtorEq, Int.reduceAdd, Int.reduceSub, Int.reduceMul, Int.reduceNeg, Int.reduceToNat, List.reduceReplicate, String.reduceEq, dCs, hlen, htk]
  rw [show DVal.agg (c.map dI) = dCs c from rfl]
  refine (cost_spec hG.rows _ c hc o h0 h1).mono ?_
  rintro _ H1 ⟨rfl, rfl⟩
  simp (disch := omega) only [go_sem, Nat.reduceEqDiff, Nat.reduceAdd, Nat.reduceMul, Nat.reduceSub, Nat.reduceLeDiff, ↓reduceIte, reduceCtorEq, Int.reduceAdd, Int.reduceSub, Int.reduceMul, Int.reduceNeg, Int.reduceToNat, List.reduceReplicate, String.reduceEq, dCs, hlen, htk]
  rw [show DVal.agg (c.map dI) = dCs c from rfl]
  refine (most_spec G _ c hc).mono ?_
  rintro _ H1 ⟨rfl, rfl⟩
  cases hA : (isO o && mayC c) with
  | false =>
    have e1 : takesD c o sc i = (0, 2) := by rw [takesD, hA]; rfl
    have e2 : costD c o = (0, 2) := by rw [costD, hA]; rfl
    rw [e1, e2]
    simp (disch := omega) only [go_sem, Nat.reduceEqDiff, Nat.reduceAdd, Nat.reduceMul, Nat.reduceSub, Nat.reduceLeDiff, ↓reduceIte, reduceCtorEq, Int.reduceAdd, Int.reduceSub, Int.reduceMul, Int.reduceNeg, Int.reduceToNat, List.reduceReplicate, String.reduceEq]
    refine (head30_spec hG _).mono ?_
    rintro _ H1 ⟨rfl, rfl⟩
    simp (disch := omega) only [go_sem, Nat.reduceEqDiff, Nat.reduceAdd, Nat.reduceMul, Nat.reduceSub, Nat.reduceLeDiff, ↓reduceIte, reduceCtorEq, Int.reduceAdd, Int.reduceSub, Int.reduceMul, Int.reduceNeg, Int.reduceToNat, List.reduceReplicate, String.reduceEq]
    exact DFin.dropA r hr (DFin.refl ⟨rfl, rfl⟩)
  | true =>
    have e2 : costD c o = (c.getD o.toNat 0, 0) := by rw [costD, hA]; rfl
    have hAA := hA
    rw [Bool.and_eq_true] at hAA
    by_cases ci : i < 0
    · have e1 : takesD c o sc i = (0, 2) := by rw [takesD, hA, decide_eq_false (p := 0 ≤ i) (by omega)]; rfl
      rw [e1, e2]
      simp (disch := omega) only [go_sem, Nat.reduceEqDiff, Nat.reduceAdd, Nat.reduceMul, Nat.reduceSub, Nat.reduceLeDiff, ↓reduceIte, reduceCtorEq, Int.reduceAdd, Int.reduceSub, Int.reduceMul, Int.reduceNeg, Int.reduceToNat, List.reduceReplicate, String.reduceEq]
      refine (head30_spec hG _).mono ?_
      rintro _ H1 ⟨rfl, rfl⟩
      simp (disch := omega) only [go_sem, Nat.reduceEqDiff, Nat.reduceAdd, Nat.reduceMul, Nat.reduceSub, Nat.reduceLeDiff, ↓reduceIte, reduceCtorEq, Int.reduceAdd, Int.reduceSub, Int.reduceMul, Int.reduceNeg, Int.reduceToNat, List.reduceReplicate, String.reduceEq]
      exact DFin.dropA r hr (DFin.refl ⟨rfl, rfl⟩)
    have hok : (isO o && mayC c && decide (0 ≤ i)) = true := by rw [hA, decide_eq_true (p := 0 ≤ i) (by omega)]; rfl
    have hom : 1 ≤ o ∧ o ≤ 57 := by simpa [isO] using hAA.1
    have hcv := mayC_at hc hAA.2 (o := o.toNat) (by omega) (by omega)
    have e3 : mostD c = (maxL c, 0) := by rw [mostD, hAA.2]; rfl
    have hmx : c.getD o.toNat 0 ≤ maxL c := by
      rw [List.getD, List.getElem?_eq_getElem (by omega)]; exact maxL_ge (List.getElem_mem _)
    have e1 := takesD_ok (sc := sc) hok
    have ez := fun n => takesD_zero (n := n) hok
    have hbt : 1 ≤ (takesD c o sc i).1 ∧ (takesD c o sc i).1 ≤ c.getD o.toNat 0 := by
      rw [e1]
      dsimp only
      split
      · omega
      · rename_i hne
        have hpos : 0 < sc.length := List.length_pos_iff.2 hne
        have hml : i.toNat % sc.length < sc.length := Nat.mod_lt _ hpos
        have hxb : 0 ≤ sc.getD (i.toNat % sc.length) 0 := by
          rw [List.getD, List.getElem?_eq_getElem hml]; exact (hb _ (List.getElem_mem hml)).1
        rw [Int.tmod_eq_emod_of_nonneg hxb]
        have := Int.emod_nonneg (sc.getD (i.toNat % sc.length) 0) (b := c.getD o.toNat 0) (by omega)
        have := Int.emod_lt_of_pos (sc.getD (i.toNat % sc.length) 0) (b := c.getD o.toNat 0) (by omega)
        omega
    have e1b : (takesD c o sc i).2 = 0 := by rw [e1]
    rw [e1b, e2, e3]
    generalize ht : (takesD c o sc i).1 = t at hbt
    generalize hv : c.getD o.toNat 0 = v at *
    have n1 : ¬ t < 1 := by omega
    have n2 : ¬ v < t := by omega
    have n3 : ¬ maxL c < v := by omega
    have hm : (if (100 : Int) < (sc.length : Int) then (100 : Int) else (sc.length : Int)) = ((min sc.length 100 : Nat) : Int) := by split <;> omega
    simp (disch := omega) only [go_sem, Nat.reduceEqDiff, Nat.reduceAdd, Nat.reduceMul, Nat.reduceSub, Nat.reduceLeDiff, ↓reduceIte, reduceCtorEq, Int.reduceAdd, Int.reduceSub, Int.reduceMul, Int.reduceNeg, Int.reduceToNat, List.reduceReplicate, String.reduceEq, n1, n2, n3, hlen, htk]
    refine dwp_draws (by kernel_rfl) (.take 0 (.take 1 (.take 2 (.take 3 (.take 4 (.take 6 (.go 5 [0] (.go 7 [] (.take 8 (.take 9 (.take 10 (.take 11 (.take 12 .done))))))))))))) (by kernel_rfl) ?_
    simp (disch := omega) only [go_sem, Nat.reduceEqDiff, Nat.reduceAdd, Nat.reduceMul, Nat.reduceSub, Nat.reduceLeDiff, ↓reduceIte, reduceCtorEq, Int.reduceAdd, Int.reduceSub, Int.reduceMul, Int.reduceNeg, Int.reduceToNat, List.reduceReplicate, String.reduceEq, hlen, htk, dB8, dMM, dMinMax, dMinMaxL, hm, Int.toNat_natCast, repl_one]
    generalize hn : min sc.length 100 = n
    have hn100 : n ≤ 100 := by omega
    intro a ha; dsimp only at ha
    obtain ⟨d2, d1, _⟩ := upd_eq_none.1 ha
    simp (disch := omega) only [go_sem, Nat.reduceEqDiff, Nat.reduceAdd, Nat.reduceMul, Nat.reduceSub, Nat.reduceLeDiff, ↓reduceIte, reduceCtorEq, Int.reduceAdd, Int.reduceSub, Int.reduceMul, Int.reduceNeg, Int.reduceToNat, List.reduceReplicate, String.reduceEq, d1, d2, hlen, htk]
    refine DCalls.fzA a ha ?_
    have hz8 : DVal.vslice (((List.replicate n (DVal.int .u8 0)).drop 0).take (n * 1)) n = dB8 (List.replicate n 0) := by simp [dB8]
    simp only [fzs, fz, if_pos, fzs_ints, hz8, fz_int]
    rw [show DVal.agg (c.map dI) = dCs c from rfl]
    refine (takes_spec hG.rows _ c hc o h0 h1 (List.replicate n 0) (by simp; omega) (by intro x hx; rw [List.eq_of_mem_replicate hx]; omega) i hi).mono ?_
    rintro _ H1 ⟨rfl, rfl⟩
    rw [ez n]
    simp (disch := omega) only [go_sem, Nat.reduceEqDiff, Nat.reduceAdd, Nat.reduceMul, Nat.reduceSub, Nat.reduceLeDiff, ↓reduceIte, reduceCtorEq, Int.reduceAdd, Int.reduceSub, Int.reduceMul, Int.reduceNeg, Int.reduceToNat, List.reduceReplicate, String.reduceEq, hlen, htk]
    by_cases cb : 4611686018427387904 < i
    · simp (disch := omega) only [go_sem, Nat.reduceEqDiff, Nat.reduceAdd, Nat.reduceMul, Nat.reduceSub, Nat.reduceLeDiff, ↓reduceIte, reduceCtorEq, Int.reduceAdd, Int.reduceSub, Int.reduceMul, Int.reduceNeg, Int.reduceToNat, List.reduceReplicate, String.reduceEq]
      refine (head30_spec hG _).mono ?_
      rintro _ H1 ⟨rfl, rfl⟩
      simp (disch := omega) only [go_sem, Nat.reduceEqDiff, Nat.reduceAdd, Nat.reduceMul, Nat.reduceSub, Nat.reduceLeDiff, ↓reduceIte, reduceCtorEq, Int.reduceAdd, Int.reduceSub, Int.reduceMul, Int.reduceNeg, Int.reduceToNat, List.reduceReplicate, String.reduceEq]
      exact DFin.dropA r hr (DFin.refl ⟨rfl, rfl⟩)
    have hw : IntKind.i64.wrap (i + (sc.length : Int)) = i + (sc.length : Int) := by rw [IntKind.wrap_i64]; omega
    have hok2 : (isO o && mayC c && decide (0 ≤ i + (sc.length : Int))) = true := by rw [hA, decide_eq_true (p := 0 ≤ i + (sc.length : Int)) (by omega)]; rfl
    have hsame : takesD c o sc (i + (sc.length : Int)) = (t, 0) := by
      rw [takesD_ok hok2, ← ht, e1, show (i + (sc.length : Int)).toNat % sc.length = i.toNat % sc.length by
        rw [show (i + (sc.length : Int)).toNat = i.toNat + sc.length by omega, Nat.add_mod_right], hv]
    simp (disch := omega) only [go_sem, Nat.reduceEqDiff, Nat.reduceAdd, Nat.reduceMul, Nat.reduceSub, Nat.reduceLeDiff, ↓reduceIte, reduceCtorEq, Int.reduceAdd, Int.reduceSub, Int.reduceMul, Int.reduceNeg, Int.reduceToNat, List.reduceReplicate, String.reduceEq, hlen, htk, dB8, hw]
    rw [show DVal.agg (c.map dI) = dCs c from rfl]
    refine (takes_spec hG.rows _ c hc o h0 h1 sc hs hb (i + (sc.length : Int)) ⟨by omega, by omega⟩).mono ?_
    rintro _ H1 ⟨rfl, rfl⟩
    rw [hsame]
    simp (disch := omega) only [go_sem, Nat.reduceEqDiff, Nat.reduceAdd, Nat.reduceMul, Nat.reduceSub, Nat.reduceLeDiff, ↓reduceIte, reduceCtorEq, Int.reduceAdd, Int.reduceSub, Int.reduceMul, Int.reduceNeg, Int.reduceToNat, List.reduceReplicate, String.reduceEq]
    refine (head30_spec hG _).mono ?_
    rintro _ H1 ⟨rfl, rfl⟩
    simp (disch := omega) only [go_sem, Nat.reduceEqDiff, Nat.reduceAdd, Nat.reduceMul, Nat.reduceSub, Nat.reduceLeDiff, ↓reduceIte, reduceCtorEq, Int.reduceAdd, Int.reduceSub, Int.reduceMul, Int.reduceNeg, Int.reduceToNat, List.reduceReplicate, String.reduceEq]
    exact DFin.dropA r hr (DFin.refl ⟨rfl, rfl⟩)
end Go.Dl

-- Chapter 30: ClockBack at the data level.
namespace Go.Dl
open Go Go.Proofs
set_option maxRecDepth 10000

theorem dCond_if {X Y : DK} {s : DS} {b : Bool} : dCond X Y s (.bool b) ↔ (b = true → X s) ∧ (b = false → Y s) := by
  cases b <;> simp [dCond]
theorem agg_ne {P : Program} {s : DS} {t : TypeId} {c : Bool} {dst : Option Nat} {xs ys : List DVal} {K : DK} {b : Bool} (h1 : aggB P t = some true) (h2 : P.eqGuardType P.depth t = false) (h3 : dEqT P 6 t xs ys = some b) : dBin P t c .neq dst (.agg xs) (.agg ys) K s = dput dst (.bool (!b)) K s := by
  simp only [dBin, h1, h2, h3, eqOp, dEqP, true_and]
theorem readCD_some {s : List UInt8} {c : List Int} (h : readC s = some c) : readCD s = (c, 0) := by rw [readCD, h]
theorem textC_split (c : List Int) {i : Nat} (h : i < 57) : ∃ r, textC c = textCi c i ++ (nameC (i + 1) ++ 32 :: Lib.itoa (c.getD (i + 1) 0)) ++ 10 :: r := by
  refine ⟨((List.range 57).drop (i + 1)).flatMap fun i => lineC c (i + 1), ?_⟩
  have e : List.range 57 = List.range i ++ i :: (List.range 57).drop (i + 1) := by
    conv => lhs; rw [← List.take_append_drop i (List.range 57)]
    rw [List.take_range, Nat.min_eq_left (by omega), List.drop_eq_getElem_cons (by simp; omega)]
    simp
  conv => lhs; rw [textC, e]
  rw [List.flatMap_append, List.flatMap_cons, textCi, lineC]
  simp
/-- The costs of these operations, the default ones else. -/
def wantC (c : List Int) (os : List Nat) : List Int := os.foldl (fun d o => d.set o (c.getD o 0)) defC
theorem wantC_snoc (c : List Int) (os : List Nat) (o : Nat) : wantC c (os ++ [o]) = (wantC c os).set o (c.getD o 0) := by simp [wantC]
theorem wantC_len (c : List Int) (os : List Nat) : (wantC c os).length = 58 := fold_len c os defC

set_option maxHeartbeats 4000000 in
theorem clockBack_spec {G : Nat → DVal} (hG : GC G) (H : DHeap) (c : List Int) (hc : c.length = 58) (sm : Int) : DCalls Tryd.prog G 7 [dCs c, .int .u64 sm] H (DRet (.bool true) H) := by
  have hz : [DVal.int IntKind.i64 0, DVal.int IntKind.i64 0, DVal.int IntKind.i64 0, DVal.int IntKind.i64 0, DVal.int IntKind.i64 0, DVal.int IntKind.i64 0, DVal.int IntKind.i64 0, DVal.int IntKind.i64 0, DVal.int IntKind.i64 0, DVal.int IntKind.i64 0, DVal.int IntKind.i64 0, DVal.int IntKind.i64 0, DVal.int IntKind.i64 0, DVal.int IntKind.i64 0, DVal.int IntKind.i64 0, DVal.int IntKind.i64 0, DVal.int IntKind.i64 0, DVal.int IntKind.i64 0, DVal.int IntKind.i64 0, DVal.int IntKind.i64 0, DVal.int IntKind.i64 0, DVal.int IntKind.i64 0, DVal.int IntKind.i64 0, DVal.int IntKind.i64 0, DVal.int IntKind.i64 0, DVal.int IntKind.i64 0, DVal.int IntKind.i64 0, DVal.int IntKind.i64 0, DVal.int IntKind.i64 0, DVal.int IntKind.i64 0, DVal.int IntKind.i64 0, DVal.int IntKind.i64 0, DVal.int IntKind.i64 0, DVal.int IntKind.i64 0, DVal.int IntKind.i64 0, DVal.int IntKind.i64 0, DVal.int IntKind.i64 0, DVal.int IntKind.i64 0, DVal.int IntKind.i64 0, DVal.int IntKind.i64 0, DVal.int IntKind.i64 0, DVal.int IntKind.i64 0, DVal.int IntKind.i64 0, DVal.int IntKind.i64 0, DVal.int IntKind.i64 0, DVal.int IntKind.i64 0, DVal.int IntKind.i64 0, DVal.int IntKind.i64 0, DVal.int IntKind.i64 0, DVal.int IntKind.i64 0, DVal.int IntKind.i64 0, DVal.int IntKind.i64 0, DVal.int IntKind.i64 0, DVal.int IntKind.i64 0, DVal.int IntKind.i64 0, DVal.int IntKind.i64 0, DVal.int IntKind.i64 0, DVal.int IntKind.i64 0] = zeroC.map dI := rfl
  have hzl : (zeroC.map dI).length = 58 := rfl
  have hzd : (zeroC.map dI).drop 58 = [] := rfl
  have hdl : (defC.map dI).length = 58 := rfl
  have hda : (defC.map dI).all (fun d => d.one) = true := rfl
  have hlen : (c.map dI).length = 58 := by rw [List.length_map, hc]
  have htk : (c.map dI).take 58 = c.map dI := List.take_of_length_le (by omega)
  have hca : (c.map dI).all (fun d => d.one) = true := ints_one _
  have hcd : (c.map dI).drop 58 = [] := List.drop_of_length_le (by omega)
  refine dcalls_intro Tryd.func7 Tryd.call7 rfl (by kernel_rfl) ?_
  simp (disch := omega) only [go_sem, Nat.reduceEqDiff, Nat.reduceAdd, Nat.reduceMul, Nat.reduceSub, Nat.reduceLeDiff, ↓reduceIte, reduceCtorEq, Int.reduceAdd, Int.reduceSub, Int.reduceMul, Int.reduceNeg, Int.reduceToNat, List.reduceReplicate, String.reduceEq, dCs, DVal.cells]
  intro r2 hr2; dsimp only at hr2
  simp (disch := omega) only [go_sem, Nat.reduceEqDiff, Nat.reduceAdd, Nat.reduceMul, Nat.reduceSub, Nat.reduceLeDiff, ↓reduceIte, reduceCtorEq, Int.reduceAdd, Int.reduceSub, Int.reduceMul, Int.reduceNeg, Int.reduceToNat, List.reduceReplicate, String.reduceEq, hlen, htk]
  rw [show DVal.agg (c.map dI) = dCs c from rfl]
  refine (textC_spec hG.rows hG.pow _ c hc).mono ?_
  rintro _ H1 ⟨rfl, rfl⟩
  cases hm : mayC c with
  | false =>
    rw [show textCD c = ([], 2) by rw [textCD, hm]; rfl]
    simp (disch := omega) only [go_sem, Nat.reduceEqDiff, Nat.reduceAdd, Nat.reduceMul, Nat.reduceSub, Nat.reduceLeDiff, ↓reduceIte, reduceCtorEq, Int.reduceAdd, Int.reduceSub, Int.reduceMul, Int.reduceNeg, Int.reduceToNat, List.reduceReplicate, String.reduceEq, hlen, htk, dCs]
    rw [show DVal.agg (c.map dI) = dCs c from rfl]
    refine (cmay_spec G _ c hc).mono ?_
    rintro _ H1 ⟨rfl, rfl⟩
    rw [hm]
    simp (disch := omega) only [go_sem, Nat.reduceEqDiff, Nat.reduceAdd, Nat.reduceMul, Nat.reduceSub, Nat.reduceLeDiff, ↓reduceIte, reduceCtorEq, Int.reduceAdd, Int.reduceSub, Int.reduceMul, Int.reduceNeg, Int.reduceToNat, List.reduceReplicate, String.reduceEq]
    refine (head30_spec hG _).mono ?_
    rintro _ H1 ⟨rfl, rfl⟩
    simp (disch := omega) only [go_sem, Nat.reduceEqDiff, Nat.reduceAdd, Nat.reduceMul, Nat.reduceSub, Nat.reduceLeDiff, ↓reduceIte, reduceCtorEq, Int.reduceAdd, Int.reduceSub, Int.reduceMul, Int.reduceNeg, Int.reduceToNat, List.reduceReplicate, String.reduceEq]
    exact DFin.dropA r2 hr2 (DFin.refl ⟨rfl, rfl⟩)
  | true =>
    rw [show textCD c = (textC c, 0) by rw [textCD, hm]; rfl]
    have htl : (textC c).length ≤ 30 * 57 := textCi_len hc hm (Nat.le_refl 57)
    simp (disch := omega) only [go_sem, Nat.reduceEqDiff, Nat.reduceAdd, Nat.reduceMul, Nat.reduceSub, Nat.reduceLeDiff, ↓reduceIte, reduceCtorEq, Int.reduceAdd, Int.reduceSub, Int.reduceMul, Int.reduceNeg, Int.reduceToNat, List.reduceReplicate, String.reduceEq, hlen, htk, dCs]
    refine (read_spec hG.rows hG.pow hG.costs hG.gt _ (textC c) (by omega)).mono ?_
    rintro _ H1 ⟨rfl, rfl⟩
    rw [readCD_some (read_text hc hm)]
    simp (disch := omega) only [go_sem, Nat.reduceEqDiff, Nat.reduceAdd, Nat.reduceMul, Nat.reduceSub, Nat.reduceLeDiff, ↓reduceIte, reduceCtorEq, Int.reduceAdd, Int.reduceSub, Int.reduceMul, Int.reduceNeg, Int.reduceToNat, List.reduceReplicate, String.reduceEq, dCs, DVal.cells]
    rw [hz]
    intro r7 hr7; dsimp only at hr7
    obtain ⟨m2, m1, hr7'⟩ := upd_eq_none.1 hr7
    simp (disch := omega) only [go_sem, Nat.reduceEqDiff, Nat.reduceAdd, Nat.reduceMul, Nat.reduceSub, Nat.reduceLeDiff, ↓reduceIte, reduceCtorEq, Int.reduceAdd, Int.reduceSub, Int.reduceMul, Int.reduceNeg, Int.reduceToNat, List.reduceReplicate, String.reduceEq, hz, hzl, hzd, hlen, htk, hca, m1, m2, List.append_nil, agg_ne agg_costs guard_costs (eq_costs hc hc 4)]
    refine (default_spec hG.costs _).mono ?_
    rintro _ H1 ⟨rfl, rfl⟩
    simp (disch := omega) only [go_sem, Nat.reduceEqDiff, Nat.reduceAdd, Nat.reduceMul, Nat.reduceSub, Nat.reduceLeDiff, ↓reduceIte, reduceCtorEq, Int.reduceAdd, Int.reduceSub, Int.reduceMul, Int.reduceNeg, Int.reduceToNat, List.reduceReplicate, String.reduceEq, dCs, DVal.cells]
    rw [hz]
    intro r10 hr10; dsimp only at hr10
    obtain ⟨m4, m3, hr10a⟩ := upd_eq_none.1 hr10
    obtain ⟨m6, m5, hr10'⟩ := upd_eq_none.1 hr10a
    simp (disch := omega) only [go_sem, Nat.reduceEqDiff, Nat.reduceAdd, Nat.reduceMul, Nat.reduceSub, Nat.reduceLeDiff, ↓reduceIte, reduceCtorEq, Int.reduceAdd, Int.reduceSub, Int.reduceMul, Int.reduceNeg, Int.reduceToNat, List.reduceReplicate, String.reduceEq, hz, hzl, hzd, hdl, hda, m1, m2, m3, m4, m5, m6, List.append_nil]
    obtain ⟨I, hI⟩ : ∃ I : Nat × List Nat → (Nat → DVal) → DHeap → Prop, ∀ ix env heap, I ix env heap ↔ (env 1 = .int .u64 sm ∧ env 2 = .optr r2 0 ∧ env 5 = .str (textC c) ∧ env 7 = .optr r7 0 ∧ env 9 = .str (ix.2.flatMap (lineC c)) ∧ env 10 = .optr r10 0 ∧ env 11 = dI (textCi c ix.1).length ∧ env 12 = .int .u8 (((ix.1 + 1 : Nat)) : Int) ∧ ix.1 ≤ 57 ∧ ix.2.Nodup ∧ (∀ o ∈ ix.2, 1 ≤ o ∧ o ≤ ix.1) ∧ (ix.2.flatMap (lineC c)).length ≤ 30 * ix.1 ∧ heap = upd (upd (upd H r2 (some (DObj.cells (c.map dI) 23))) r7 (some (DObj.cells (c.map dI) 23))) r10 (some (DObj.cells ((wantC c ix.2).map dI) 23))) := ⟨_, fun _ _ _ => Iff.rfl⟩
    refine DLoop.run I (fun ix => 57 - ix.1) (0, []) ((hI _ _ _).2 ?_) ?_
    · simp (disch := omega) only [go_sem, Nat.reduceEqDiff, Nat.reduceAdd, Nat.reduceMul, Nat.reduceSub, Nat.reduceLeDiff, ↓reduceIte, reduceCtorEq, Int.reduceAdd, Int.reduceSub, Int.reduceMul, Int.reduceNeg, Int.reduceToNat, List.reduceReplicate, String.reduceEq]
      (repeat' apply And.intro) <;> (try first | rfl | assumption | omega)
      all_goals (try simp [textCi, wantC])
    · rintro ⟨i, os⟩ env heap hi
      obtain ⟨e1, e2, e5, e7, e9, e10, e11, e12, hi57, hnd, hos, hpl, rfl⟩ := (hI _ _ _).1 hi
      dsimp only at e9 e11 e12 hi57 hnd hos hpl
      have hwl := wantC_len c os
      have hwl2 : ((wantC c os).map dI).length = 58 := by rw [List.length_map, hwl]
      have hwt : ((wantC c os).map dI).take 58 = (wantC c os).map dI := List.take_of_length_le (by omega)
      have hwa : ((wantC c os).map dI).all (fun d => d.one) = true := ints_one _
      have hwd : ((wantC c os).map dI).drop 58 = [] := List.drop_of_length_le (by omega)
      have hb0 := textCi_len hc hm hi57
      by_cases hlt : i < 57
      · obtain ⟨rest, hsp⟩ := textC_split c hlt
        have hn10 := line_no10 (c := c) (o := i + 1) (by omega) (by omega)
        have hget := cget hc (i := i + 1) (by omega)
        have hlc : lineC c (i + 1) = (nameC (i + 1) ++ 32 :: Lib.itoa (c.getD (i + 1) 0)) ++ [10] := by rw [lineC]; simp
        have hll := lineC_len hc hm (o := i + 1) (by omega) (by omega)
        have hts := textCi_succ c i
        rw [hlc] at hts hll
        generalize hw : nameC (i + 1) ++ 32 :: Lib.itoa (c.getD (i + 1) 0) = wl at hsp hn10 hlc hts hll
        generalize hpre : textCi c i = pre at *
        have hg : ∀ k, k < wl.length → (textC c)[pre.length + k]? = wl[k]? := fun k hk => by
          rw [hsp, List.append_assoc, List.getElem?_append_right (by omega), Nat.add_sub_cancel_left, List.getElem?_append_left hk]
        have hg10 : (textC c)[pre.length + wl.length]? = some 10 := by
          rw [hsp, List.getElem?_append_right (by simp), List.length_append, Nat.sub_self]; rfl
        have hlt2 : pre.length + wl.length < (textC c).length := by rw [hsp]; simp
        have hlt' : (((i + 1 : Nat)) : Int) < 58 := by omega
        have hwll : wl.length ≤ 30 := by simp at hll; omega
        simp (disch := omega) only [go_sem, Nat.reduceEqDiff, Nat.reduceAdd, Nat.reduceMul, Nat.reduceSub, Nat.reduceLeDiff, ↓reduceIte, reduceCtorEq, Int.reduceAdd, Int.reduceSub, Int.reduceMul, Int.reduceNeg, Int.reduceToNat, List.reduceReplicate, String.reduceEq, e1, e2, e5, e7, e9, e10, e11, e12, hlt']
        obtain ⟨J, hJ⟩ : ∃ J : Nat → (Nat → DVal) → DHeap → Prop, ∀ k env heap, J k env heap ↔ (env 1 = .int .u64 sm ∧ env 2 = .optr r2 0 ∧ env 5 = .str (textC c) ∧ env 7 = .optr r7 0 ∧ env 9 = .str (os.flatMap (lineC c)) ∧ env 10 = .optr r10 0 ∧ env 11 = dI pre.length ∧ env 12 = .int .u8 (((i + 1 : Nat)) : Int) ∧ env 13 = dI ((pre.length + k : Nat) : Int) ∧ k ≤ wl.length ∧ heap = upd (upd (upd H r2 (some (DObj.cells (c.map dI) 23))) r7 (some (DObj.cells (c.map dI) 23))) r10 (some (DObj.cells ((wantC c os).map dI) 23))) := ⟨_, fun _ _ _ => Iff.rfl⟩
        refine DLoop.run J (fun k => wl.length - k) 0 ((hJ _ _ _).2 ?_) ?_
        · simp (disch := omega) only [go_sem, Nat.reduceEqDiff, Nat.reduceAdd, Nat.reduceMul, Nat.reduceSub, Nat.reduceLeDiff, ↓reduceIte, reduceCtorEq, Int.reduceAdd, Int.reduceSub, Int.reduceMul, Int.reduceNeg, Int.reduceToNat, List.reduceReplicate, String.reduceEq, e1, e2, e5, e7, e9, e10, e11, e12]
        · intro k env heap hj
          obtain ⟨e1, e2, e5, e7, e9, e10, e11, e12, e13, hk, rfl⟩ := (hJ _ _ _).1 hj
          have hkl : ((pre.length + k : Nat) : Int) < ((textC c).length : Int) := by omega
          by_cases hkw : k < wl.length
          · have hgk := hg k hkw
            rw [List.getElem?_eq_getElem hkw] at hgk
            have hne : ¬ (wl[k].toNat : Int) = 10 := toNat_ne (d := 10) (fun e => hn10 (e ▸ List.getElem_mem hkw))
            simp (disch := omega) only [go_sem, Nat.reduceEqDiff, Nat.reduceAdd, Nat.reduceMul, Nat.reduceSub, Nat.reduceLeDiff, ↓reduceIte, reduceCtorEq, Int.reduceAdd, Int.reduceSub, Int.reduceMul, Int.reduceNeg, Int.reduceToNat, List.reduceReplicate, String.reduceEq, e1, e2, e5, e7, e9, e10, e11, e12, e13, hkl, Int.toNat_natCast, hgk, hne]
            refine ⟨k + 1, _, GhostS.refl _, (hJ _ _ _).2 ?_, by omega⟩
            simp (disch := omega) only [go_sem, Nat.reduceEqDiff, Nat.reduceAdd, Nat.reduceMul, Nat.reduceSub, Nat.reduceLeDiff, ↓reduceIte, reduceCtorEq, Int.reduceAdd, Int.reduceSub, Int.reduceMul, Int.reduceNeg, Int.reduceToNat, List.reduceReplicate, String.reduceEq, e1, e2, e5, e7, e9, e10, e11, e12, e13]
            (repeat' apply And.intro) <;> (try first | rfl | assumption | omega)
          · have : k = wl.length := by omega
            subst this
            have h10 : (((10 : UInt8).toNat : Nat) : Int) = 10 := rfl
            have hne2 : ¬ ((pre.length + wl.length : Nat) : Int) = ((textC c).length : Int) := by omega
            have hw1 : IntKind.i64.wrap (((pre.length + wl.length : Nat) : Int) + 1) = ((pre.length + wl.length + 1 : Nat) : Int) := by rw [IntKind.wrap_i64]; omega
            have hsl : ((textC c).drop pre.length).take (pre.length + wl.length + 1 - pre.length) = lineC c (i + 1) := by
              rw [hlc, hsp, List.append_assoc, List.drop_left, show pre.length + wl.length + 1 - pre.length = (wl ++ [10]).length by simp; omega, show wl ++ 10 :: rest = (wl ++ [10]) ++ rest by simp, List.take_left]
            have hw2 : IntKind.u8.wrap (((i + 1 : Nat) : Int) + 1) = ((i + 1 + 1 : Nat) : Int) := by rw [IntKind.wrap_u8]; omega
            have hnx : (textCi c (i + 1)).length = pre.length + wl.length + 1 := by rw [hts]; simp; omega
            simp (disch := omega) only [go_sem, Nat.reduceEqDiff, Nat.reduceAdd, Nat.reduceMul, Nat.reduceSub, Nat.reduceLeDiff, ↓reduceIte, reduceCtorEq, Int.reduceAdd, Int.reduceSub, Int.reduceMul, Int.reduceNeg, Int.reduceToNat, List.reduceReplicate, String.reduceEq, e1, e2, e5, e7, e9, e10, e11, e12, e13, hkl, Int.toNat_natCast, hg10, h10, Option.map_some, hne2]
            refine dCond_if.2 ⟨fun hbit => ?_, fun hbit => ?_⟩
            · have hset := splice_setA dI (wantC c os) (i + 1) (c.getD (i + 1) 0) (by omega)
              rw [← wantC_snoc] at hset
              have hlt3 : pre.length + wl.length + 1 ≤ (textC c).length := by omega
              have hll2 : (lineC c (i + 1)).length ≤ 30 := lineC_len hc hm (by omega) (by omega)
              simp (disch := omega) only [go_sem, Nat.reduceEqDiff, Nat.reduceAdd, Nat.reduceMul, Nat.reduceSub, Nat.reduceLeDiff, ↓reduceIte, reduceCtorEq, Int.reduceAdd, Int.reduceSub, Int.reduceMul, Int.reduceNeg, Int.reduceToNat, List.reduceReplicate, String.reduceEq, e1, e2, e5, e7, e9, e10, e11, e12, e13, hw1, hsl, Int.toNat_natCast, hget, hlen, hwl2, m1, m2, m3, m4, m5, m6, hset, hw2]
              refine ⟨(i + 1, os ++ [i + 1]), _, GhostS.refl _, (hI _ _ _).2 ?_, by dsimp only; omega⟩
              simp (disch := omega) only [go_sem, Nat.reduceEqDiff, Nat.reduceAdd, Nat.reduceMul, Nat.reduceSub, Nat.reduceLeDiff, ↓reduceIte, reduceCtorEq, Int.reduceAdd, Int.reduceSub, Int.reduceMul, Int.reduceNeg, Int.reduceToNat, List.reduceReplicate, String.reduceEq, e1, e2, e5, e7, e9, e10, e11, e12, e13]
              refine ⟨by simp, by rw [hnx], ?_, ?_, ?_⟩
              · rw [List.nodup_append]
                refine ⟨hnd, by simp, fun a ha b hb e => ?_⟩
                rw [List.mem_singleton] at hb
                have := (hos a ha).2
                omega
              · intro o ho
                rcases List.mem_append.1 ho with ho | ho
                · have := hos o ho; omega
                · rw [List.mem_singleton] at ho; omega
              · rw [List.flatMap_append, List.length_append, List.flatMap_cons, List.flatMap_nil, List.append_nil]; omega
            · simp (disch := omega) only [go_sem, Nat.reduceEqDiff, Nat.reduceAdd, Nat.reduceMul, Nat.reduceSub, Nat.reduceLeDiff, ↓reduceIte, reduceCtorEq, Int.reduceAdd, Int.reduceSub, Int.reduceMul, Int.reduceNeg, Int.reduceToNat, List.reduceReplicate, String.reduceEq, e1, e2, e5, e7, e9, e10, e11, e12, e13, hw1, hw2]
              refine ⟨(i + 1, os), _, GhostS.refl _, (hI _ _ _).2 ?_, by dsimp only; omega⟩
              simp (disch := omega) only [go_sem, Nat.reduceEqDiff, Nat.reduceAdd, Nat.reduceMul, Nat.reduceSub, Nat.reduceLeDiff, ↓reduceIte, reduceCtorEq, Int.reduceAdd, Int.reduceSub, Int.reduceMul, Int.reduceNeg, Int.reduceToNat, List.reduceReplicate, String.reduceEq, e1, e2, e5, e7, e9, e10, e11, e12, e13]
              exact ⟨by rw [hnx], fun o ho => by have := hos o ho; omega⟩
      · have : i = 57 := by omega
        subst this
        have hrp := read_part hc hm os hnd (fun o ho => hos o ho)
        simp (disch := omega) only [go_sem, Nat.reduceEqDiff, Nat.reduceAdd, Nat.reduceMul, Nat.reduceSub, Nat.reduceLeDiff, ↓reduceIte, reduceCtorEq, Int.reduceAdd, Int.reduceSub, Int.reduceMul, Int.reduceNeg, Int.reduceToNat, List.reduceReplicate, String.reduceEq, e1, e2, e5, e7, e9, e10, e11, e12]
        refine (read_spec hG.rows hG.pow hG.costs hG.gt _ (os.flatMap (lineC c)) (by omega)).mono ?_
        rintro _ H1 ⟨rfl, rfl⟩
        rw [readCD_some hrp, show os.foldl (fun d o => d.set o (c.getD o 0)) defC = wantC c os from rfl]
        simp (disch := omega) only [go_sem, Nat.reduceEqDiff, Nat.reduceAdd, Nat.reduceMul, Nat.reduceSub, Nat.reduceLeDiff, ↓reduceIte, reduceCtorEq, Int.reduceAdd, Int.reduceSub, Int.reduceMul, Int.reduceNeg, Int.reduceToNat, List.reduceReplicate, String.reduceEq, dCs, e1, e2, e5, e7, e9, e10, e11, e12, hlen, hcd, hwl2, hwa, hwt, m1, m2, m3, m4, m5, m6, List.append_nil, DVal.cells, agg_eq agg_costs guard_costs (eq_costs hwl hwl 4), show (textCi c 57).length = (textC c).length from rfl]
        refine (head30_spec hG _).mono ?_
        rintro _ H1 ⟨rfl, rfl⟩
        simp (disch := omega) only [go_sem, Nat.reduceEqDiff, Nat.reduceAdd, Nat.reduceMul, Nat.reduceSub, Nat.reduceLeDiff, ↓reduceIte, reduceCtorEq, Int.reduceAdd, Int.reduceSub, Int.reduceMul, Int.reduceNeg, Int.reduceToNat, List.reduceReplicate, String.reduceEq]
        exact DFin.sub (show Sub H _ from (by repeat (first | exact Sub.refl _ | assumption | refine Sub.up ?_ (by assumption) _))) (DFin.refl ⟨rfl, rfl⟩)
end Go.Dl

-- Chapter 30: what the rows of ClockBounds, ClockBack import.
