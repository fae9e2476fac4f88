/- The data level and the contracts of the functions that are reached (part 9). -/
import Derived.Test.YtocmbkaaioomdaaDoorRows
import Derived.Shelf.Lays
import Derived.Shelf.Strings.OnBuilder
import Derived.Shelf.Strings.Split
import Derived.Test.YtocmbkaaioomdaaDoorProg
import Derived.Lib.SplitLaws
import Derived.Lib.Join
import Derived.Test.YtocmbkaaioomdaaDoorMh
set_option linter.unusedSimpArgs false
set_option linter.unusedVariables false
-- Chapter 35: the examples (awake).
namespace Go.Dl
open Go Go.Proofs
set_option maxRecDepth 10000

theorem itoa_small (d : Nat) (h : d < 10) : Lib.itoa (d : Int) = [UInt8.ofNat (48 + d)] := by rw [Lib.itoa_nonneg, Lib.decDigits_one h]
theorem itoa_0 : Lib.itoa 0 = [48] := itoa_small 0 (by omega)
theorem itoa_1 : Lib.itoa 1 = [49] := itoa_small 1 (by omega)
theorem itoa_2 : Lib.itoa 2 = [50] := itoa_small 2 (by omega)
theorem itoa_3 : Lib.itoa 3 = [51] := itoa_small 3 (by omega)
theorem itoa_7 : Lib.itoa 7 = [55] := itoa_small 7 (by omega)
theorem itoa_12 : Lib.itoa 12 = [49, 50] := by rw [show (12 : Int) = ((12 : Nat) : Int) from rfl, Lib.itoa_nonneg, Lib.decDigits_two (by omega) (by omega)]; rfl

def ex1 : List Act := [⟨3, 0, 1, 7, 0, 0⟩, ⟨3, 0, 10, 0, 0, 0⟩]
def ex2 : List Act := [⟨12, 0, 11, 1, 0, 0⟩]
theorem ex1_text : textD ex1 = ([51, 32, 48, 32, 112, 117, 116, 32, 55, 10, 51, 32, 48, 32, 100, 111, 110, 101, 10], 0) := by
  have h : textL ex1 = [51, 32, 48, 32, 112, 117, 116, 32, 55, 10, 51, 32, 48, 32, 100, 111, 110, 101, 10] := by
    simp only [textL, ex1, List.flatMap_cons, List.flatMap_nil, lineT, oneT, headT, numsT, itoa_3, itoa_0, kindAt, kindT, Int.reduceToNat, List.getD_cons_succ, List.getD_cons_zero, List.take_succ_cons, List.take_zero, List.map_cons, List.map_nil, itoa_7]
    rfl
  rw [textD, if_pos (by decide), h]; rfl
theorem ex2_text : textD ex2 = ([49, 50, 32, 48, 32, 99, 97, 108, 108, 32, 49, 32, 48, 10], 0) := by
  have h : textL ex2 = [49, 50, 32, 48, 32, 99, 97, 108, 108, 32, 49, 32, 48, 10] := by
    simp only [textL, ex2, List.flatMap_cons, List.flatMap_nil, lineT, oneT, headT, numsT, itoa_12, itoa_0, kindAt, kindT, Int.reduceToNat, List.getD_cons_succ, List.getD_cons_zero, List.take_succ_cons, List.take_zero, List.map_cons, List.map_nil, itoa_1]
    rfl
  rw [textD, if_pos (by decide), h]; rfl
theorem ex3_read : readL [51, 32, 48, 32, 112, 117, 116, 32, 48, 55, 10] = ([], 1, 350) := by
  have ha : actOf [51, 32, 48, 32, 112, 117, 116, 32, 48, 55] = none := actOf_none fun x hx => by
    obtain ⟨h1, h2, h3, h4⟩ := line_parse ((textOf_line _ _).1 hx) rfl
    rw [trim_lf] at h1 h2 h3 h4
    have q1 : pI (wordOf [51, 32, 48, 32, 112, 117, 116, 32, 48, 55]) = some 3 := by rfl
    have q2 : pI (wordOf (restOf [51, 32, 48, 32, 112, 117, 116, 32, 48, 55])) = some 0 := by rfl
    have q3 : kindIx (wordOf (restOf (restOf [51, 32, 48, 32, 112, 117, 116, 32, 48, 55]))) = 1 := by rfl
    have q4 : pN (restOf (restOf (restOf [51, 32, 48, 32, 112, 117, 116, 32, 48, 55]))) 0 = some 7 := by rfl
    rw [q1] at h1; rw [q2] at h2; rw [q3] at h3
    have ht := hx.2.2
    obtain ⟨tm, tk, k, a, b, n⟩ := x
    simp only [Option.some.injEq] at h1 h2 h3
    subst h1 h2 h3
    have h5 := h4 0 a rfl
    rw [q4] at h5; cases h5
    simp only [oneT, headT, numsT, itoa_3, itoa_0, kindAt, kindT, Int.reduceToNat, List.getD_cons_succ, List.getD_cons_zero, List.take_succ_cons, List.take_zero, List.map_cons, List.map_nil, itoa_7] at ht
    have := congrArg List.length ht
    simp at this
  rw [readL, if_neg (by decide), show ([51, 32, 48, 32, 112, 117, 116, 32, 48, 55, 10] : List UInt8) = [51, 32, 48, 32, 112, 117, 116, 32, 48, 55] ++ 10 :: [] from rfl, rdL_line (by decide), stepR, ha]
  rfl
theorem ex4_read : readL [51, 32, 48, 32, 100, 111, 110, 101] = ([], 1, 350) := by
  rw [readL, if_neg (by decide), rdL_none (by simp) (by decide)]; rfl
theorem ex5_read : readL [51, 32, 48, 32, 119, 97, 105, 116, 10, 50, 32, 49, 32, 119, 97, 105, 116, 10] = ([], 2, 350) := by
  have h1 : actOf [51, 32, 48, 32, 119, 97, 105, 116] = some ⟨3, 0, 15, 0, 0, 0⟩ := actOf_some ⟨by unfold ActW I64; decide, by decide, by
    simp only [oneT, headT, numsT, itoa_3, itoa_0, kindAt, kindT, Int.reduceToNat, List.getD_cons_succ, List.getD_cons_zero, List.take_succ_cons, List.take_zero, List.map_cons, List.map_nil]; rfl⟩
  have h2 : actOf [50, 32, 49, 32, 119, 97, 105, 116] = some ⟨2, 1, 15, 0, 0, 0⟩ := actOf_some ⟨by unfold ActW I64; decide, by decide, by
    simp only [oneT, headT, numsT, itoa_2, itoa_1, kindAt, kindT, Int.reduceToNat, List.getD_cons_succ, List.getD_cons_zero, List.take_succ_cons, List.take_zero, List.map_cons, List.map_nil]; rfl⟩
  rw [readL, if_neg (by decide), show ([51, 32, 48, 32, 119, 97, 105, 116, 10, 50, 32, 49, 32, 119, 97, 105, 116, 10] : List UInt8) = [51, 32, 48, 32, 119, 97, 105, 116] ++ 10 :: ([50, 32, 49, 32, 119, 97, 105, 116] ++ 10 :: []) from rfl, rdL_line (by decide), stepR, h1]
  dsimp only
  rw [if_neg (by simp [early])]
  dsimp only
  rw [rdL_line (by decide), stepR, h2]
  dsimp only
  rw [if_pos (by simp [early])]
  rfl

/-- What the package's variables hold. -/
structure GAll (G : Nat → DVal) : Prop where
  gt : GT G
  k : G 0 = .vptr dKinds 0
  p : G 4 = .vptr dPow 0

theorem awake35_spec {G : Nat → DVal} (hG : GAll G) (H : DHeap) : DCalls Tryd.prog G 10 [] H (DRet (.bool true) H) := by
  refine dcalls_intro Tryd.func10 Tryd.call10 rfl (by kernel_rfl) ?_
  simp (disch := omega) only [go_sem, Nat.reduceEqDiff, Nat.reduceAdd, Nat.reduceMul, Nat.reduceSub, Nat.reduceLeDiff, ↓reduceIte, reduceCtorEq, Int.reduceAdd, Int.reduceSub, Int.reduceMul, Int.reduceNeg, Int.reduceToNat, List.reduceReplicate, String.reduceEq]
  (intro a ha; dsimp only at ha; try simp only [upd_eq_none] at ha)
  (try simp (disch := omega) only [go_sem, Nat.reduceEqDiff, Nat.reduceAdd, Nat.reduceMul, Nat.reduceSub, Nat.reduceLeDiff, ↓reduceIte, reduceCtorEq, Int.reduceAdd, Int.reduceSub, Int.reduceMul, Int.reduceNeg, Int.reduceToNat, List.reduceReplicate, String.reduceEq, ha])
  refine DCalls.fzA a (by simp [upd, ha]) ?_
  (try simp (disch := omega) only [go_sem, Nat.reduceEqDiff, Nat.reduceAdd, Nat.reduceMul, Nat.reduceSub, Nat.reduceLeDiff, ↓reduceIte, reduceCtorEq, Int.reduceAdd, Int.reduceSub, Int.reduceMul, Int.reduceNeg, Int.reduceToNat, List.reduceReplicate, String.reduceEq, ha])
  refine (text_spec hG.k hG.p H ex1 (by unfold ActsW ActW I64; decide) (by decide)).mono ?_
  rintro _ H ⟨rfl, rfl⟩
  rw [ex1_text]
  simp (disch := omega) only [go_sem, Nat.reduceEqDiff, Nat.reduceAdd, Nat.reduceMul, Nat.reduceSub, Nat.reduceLeDiff, ↓reduceIte, reduceCtorEq, Int.reduceAdd, Int.reduceSub, Int.reduceMul, Int.reduceNeg, Int.reduceToNat, List.reduceReplicate, String.reduceEq]
  (intro b hb; dsimp only at hb; try simp only [upd_eq_none] at hb)
  (try simp (disch := omega) only [go_sem, Nat.reduceEqDiff, Nat.reduceAdd, Nat.reduceMul, Nat.reduceSub, Nat.reduceLeDiff, ↓reduceIte, reduceCtorEq, Int.reduceAdd, Int.reduceSub, Int.reduceMul, Int.reduceNeg, Int.reduceToNat, List.reduceReplicate, String.reduceEq, hb])
  refine DCalls.fzA b (by simp [upd, hb]) ?_
  (try simp (disch := omega) only [go_sem, Nat.reduceEqDiff, Nat.reduceAdd, Nat.reduceMul, Nat.reduceSub, Nat.reduceLeDiff, ↓reduceIte, reduceCtorEq, Int.reduceAdd, Int.reduceSub, Int.reduceMul, Int.reduceNeg, Int.reduceToNat, List.reduceReplicate, String.reduceEq, hb])
  refine (text_spec hG.k hG.p H ex2 (by unfold ActsW ActW I64; decide) (by decide)).mono ?_
  rintro _ H ⟨rfl, rfl⟩
  rw [ex2_text]
  simp (disch := omega) only [go_sem, Nat.reduceEqDiff, Nat.reduceAdd, Nat.reduceMul, Nat.reduceSub, Nat.reduceLeDiff, ↓reduceIte, reduceCtorEq, Int.reduceAdd, Int.reduceSub, Int.reduceMul, Int.reduceNeg, Int.reduceToNat, List.reduceReplicate, String.reduceEq]
  refine (read_spec hG.gt hG.k hG.p H [51, 32, 48, 32, 112, 117, 116, 32, 48, 55, 10] (by decide)).mono ?_
  rintro _ H ⟨rfl, rfl⟩
  rw [ex3_read]
  simp (disch := omega) only [go_sem, Nat.reduceEqDiff, Nat.reduceAdd, Nat.reduceMul, Nat.reduceSub, Nat.reduceLeDiff, ↓reduceIte, reduceCtorEq, Int.reduceAdd, Int.reduceSub, Int.reduceMul, Int.reduceNeg, Int.reduceToNat, List.reduceReplicate, String.reduceEq]
  refine (read_spec hG.gt hG.k hG.p H [51, 32, 48, 32, 100, 111, 110, 101] (by decide)).mono ?_
  rintro _ H ⟨rfl, rfl⟩
  rw [ex4_read]
  simp (disch := omega) only [go_sem, Nat.reduceEqDiff, Nat.reduceAdd, Nat.reduceMul, Nat.reduceSub, Nat.reduceLeDiff, ↓reduceIte, reduceCtorEq, Int.reduceAdd, Int.reduceSub, Int.reduceMul, Int.reduceNeg, Int.reduceToNat, List.reduceReplicate, String.reduceEq]
  refine (read_spec hG.gt hG.k hG.p H [51, 32, 48, 32, 119, 97, 105, 116, 10, 50, 32, 49, 32, 119, 97, 105, 116, 10] (by decide)).mono ?_
  rintro _ H ⟨rfl, rfl⟩
  rw [ex5_read]
  simp (disch := omega) only [go_sem, Nat.reduceEqDiff, Nat.reduceAdd, Nat.reduceMul, Nat.reduceSub, Nat.reduceLeDiff, ↓reduceIte, reduceCtorEq, Int.reduceAdd, Int.reduceSub, Int.reduceMul, Int.reduceNeg, Int.reduceToNat, List.reduceReplicate, String.reduceEq]
  (intro c hc; dsimp only at hc; try simp only [upd_eq_none] at hc)
  (try simp (disch := omega) only [go_sem, Nat.reduceEqDiff, Nat.reduceAdd, Nat.reduceMul, Nat.reduceSub, Nat.reduceLeDiff, ↓reduceIte, reduceCtorEq, Int.reduceAdd, Int.reduceSub, Int.reduceMul, Int.reduceNeg, Int.reduceToNat, List.reduceReplicate, String.reduceEq, hc])
  refine DCalls.fzA c (by simp [upd, hc]) ?_
  (try simp (disch := omega) only [go_sem, Nat.reduceEqDiff, Nat.reduceAdd, Nat.reduceMul, Nat.reduceSub, Nat.reduceLeDiff, ↓reduceIte, reduceCtorEq, Int.reduceAdd, Int.reduceSub, Int.reduceMul, Int.reduceNeg, Int.reduceToNat, List.reduceReplicate, String.reduceEq, hc])
  refine (actions_spec G H [⟨5, 1, 22, 0, 0, 0⟩, ⟨8, 1, 24, 0, 1, 2⟩, ⟨9, 2, 25, 0, 0, 0⟩] 0 (by decide)).mono ?_
  rintro _ H ⟨rfl, rfl⟩
  rw [show actionsD [⟨5, 1, 22, 0, 0, 0⟩, ⟨8, 1, 24, 0, 1, 2⟩, ⟨9, 2, 25, 0, 0, 0⟩] 0 = ([⟨1, -1, 5, 8, true, false⟩, ⟨2, 1, 8, 9, false, false⟩], 0) from rfl]
  simp (disch := omega) only [go_sem, Nat.reduceEqDiff, Nat.reduceAdd, Nat.reduceMul, Nat.reduceSub, Nat.reduceLeDiff, ↓reduceIte, reduceCtorEq, Int.reduceAdd, Int.reduceSub, Int.reduceMul, Int.reduceNeg, Int.reduceToNat, List.reduceReplicate, String.reduceEq]
  (intro d hd; dsimp only at hd; try simp only [upd_eq_none] at hd)
  (try simp (disch := omega) only [go_sem, Nat.reduceEqDiff, Nat.reduceAdd, Nat.reduceMul, Nat.reduceSub, Nat.reduceLeDiff, ↓reduceIte, reduceCtorEq, Int.reduceAdd, Int.reduceSub, Int.reduceMul, Int.reduceNeg, Int.reduceToNat, List.reduceReplicate, String.reduceEq, hd])
  refine DCalls.fzA d (by simp [upd, hd]) ?_
  (try simp (disch := omega) only [go_sem, Nat.reduceEqDiff, Nat.reduceAdd, Nat.reduceMul, Nat.reduceSub, Nat.reduceLeDiff, ↓reduceIte, reduceCtorEq, Int.reduceAdd, Int.reduceSub, Int.reduceMul, Int.reduceNeg, Int.reduceToNat, List.reduceReplicate, String.reduceEq, hd])
  refine (actions_spec G H [⟨0, 0, 25, 0, 0, 0⟩] 0 (by decide)).mono ?_
  rintro _ H ⟨rfl, rfl⟩
  rw [show actionsD [⟨0, 0, 25, 0, 0, 0⟩] 0 = ([], 350) from rfl]
  simp (disch := omega) only [go_sem, Nat.reduceEqDiff, Nat.reduceAdd, Nat.reduceMul, Nat.reduceSub, Nat.reduceLeDiff, ↓reduceIte, reduceCtorEq, Int.reduceAdd, Int.reduceSub, Int.reduceMul, Int.reduceNeg, Int.reduceToNat, List.reduceReplicate, String.reduceEq]
  (intro f hf; dsimp only at hf; try simp only [upd_eq_none] at hf)
  (try simp (disch := omega) only [go_sem, Nat.reduceEqDiff, Nat.reduceAdd, Nat.reduceMul, Nat.reduceSub, Nat.reduceLeDiff, ↓reduceIte, reduceCtorEq, Int.reduceAdd, Int.reduceSub, Int.reduceMul, Int.reduceNeg, Int.reduceToNat, List.reduceReplicate, String.reduceEq, hf])
  refine DCalls.fzA f (by simp [upd, hf]) ?_
  (try simp (disch := omega) only [go_sem, Nat.reduceEqDiff, Nat.reduceAdd, Nat.reduceMul, Nat.reduceSub, Nat.reduceLeDiff, ↓reduceIte, reduceCtorEq, Int.reduceAdd, Int.reduceSub, Int.reduceMul, Int.reduceNeg, Int.reduceToNat, List.reduceReplicate, String.reduceEq, hf])
  refine (jobs_spec G H [⟨0, 0, 20, 10, 0, 0⟩, ⟨11, 0, 21, 0, 0, 0⟩, ⟨13, 0, 20, 20, 0, 0⟩] 0 (by decide)).mono ?_
  rintro _ H ⟨rfl, rfl⟩
  rw [show jobsL [⟨0, 0, 20, 10, 0, 0⟩, ⟨11, 0, 21, 0, 0, 0⟩, ⟨13, 0, 20, 20, 0, 0⟩] 0 = [⟨10, 11, 13⟩] from rfl]
  simp (disch := omega) only [go_sem, Nat.reduceEqDiff, Nat.reduceAdd, Nat.reduceMul, Nat.reduceSub, Nat.reduceLeDiff, ↓reduceIte, reduceCtorEq, Int.reduceAdd, Int.reduceSub, Int.reduceMul, Int.reduceNeg, Int.reduceToNat, List.reduceReplicate, String.reduceEq]
  (intro g hg; dsimp only at hg; try simp only [upd_eq_none] at hg)
  (try simp (disch := omega) only [go_sem, Nat.reduceEqDiff, Nat.reduceAdd, Nat.reduceMul, Nat.reduceSub, Nat.reduceLeDiff, ↓reduceIte, reduceCtorEq, Int.reduceAdd, Int.reduceSub, Int.reduceMul, Int.reduceNeg, Int.reduceToNat, List.reduceReplicate, String.reduceEq, hg])
  refine DCalls.fzA g (by simp [upd, hg]) ?_
  (try simp (disch := omega) only [go_sem, Nat.reduceEqDiff, Nat.reduceAdd, Nat.reduceMul, Nat.reduceSub, Nat.reduceLeDiff, ↓reduceIte, reduceCtorEq, Int.reduceAdd, Int.reduceSub, Int.reduceMul, Int.reduceNeg, Int.reduceToNat, List.reduceReplicate, String.reduceEq, hg])
  refine (equal_actn G H [⟨1, -1, 5, 8, true, false⟩, ⟨2, 1, 8, 9, false, false⟩] [⟨1, -1, 5, 8, true, false⟩, ⟨2, 1, 8, 9, false, false⟩] (by decide) (by decide)).mono ?_
  rintro _ H ⟨rfl, rfl⟩
  simp (disch := omega) only [go_sem, Nat.reduceEqDiff, Nat.reduceAdd, Nat.reduceMul, Nat.reduceSub, Nat.reduceLeDiff, ↓reduceIte, reduceCtorEq, Int.reduceAdd, Int.reduceSub, Int.reduceMul, Int.reduceNeg, Int.reduceToNat, List.reduceReplicate, String.reduceEq]
  (intro h hh; dsimp only at hh; try simp only [upd_eq_none] at hh)
  (try simp (disch := omega) only [go_sem, Nat.reduceEqDiff, Nat.reduceAdd, Nat.reduceMul, Nat.reduceSub, Nat.reduceLeDiff, ↓reduceIte, reduceCtorEq, Int.reduceAdd, Int.reduceSub, Int.reduceMul, Int.reduceNeg, Int.reduceToNat, List.reduceReplicate, String.reduceEq, hh])
  refine DCalls.fzA h (by simp [upd, hh]) ?_
  (try simp (disch := omega) only [go_sem, Nat.reduceEqDiff, Nat.reduceAdd, Nat.reduceMul, Nat.reduceSub, Nat.reduceLeDiff, ↓reduceIte, reduceCtorEq, Int.reduceAdd, Int.reduceSub, Int.reduceMul, Int.reduceNeg, Int.reduceToNat, List.reduceReplicate, String.reduceEq, hh])
  refine (equal_jb G H [⟨10, 11, 13⟩] [⟨10, 11, 13⟩] (by decide) (by decide)).mono ?_
  rintro _ H ⟨rfl, rfl⟩
  simp (disch := omega) only [go_sem, Nat.reduceEqDiff, Nat.reduceAdd, Nat.reduceMul, Nat.reduceSub, Nat.reduceLeDiff, ↓reduceIte, reduceCtorEq, Int.reduceAdd, Int.reduceSub, Int.reduceMul, Int.reduceNeg, Int.reduceToNat, List.reduceReplicate, String.reduceEq]
  exact DFin.refl ⟨rfl, rfl⟩
end Go.Dl

-- Chapter 35: TraceTexts, TraceReads, TracePicks, at the data level.
namespace Go.Dl
open Go Go.Proofs
set_option maxRecDepth 10000

theorem traceTexts_spec {G : Nat → DVal} (hG : GAll G) (H : DHeap) (l : List Act) (hl : l.length ≤ 1048576) (hx : ActsW l) : DCalls Tryd.prog G 3 [dActs l] H (DRet (.bool true) H) := by
  refine dcalls_intro Tryd.func3 Tryd.call3 rfl (by kernel_rfl) ?_
  by_cases c : 3000 < l.length
  · simp (disch := omega) only [go_sem, Nat.reduceEqDiff, Nat.reduceAdd, Nat.reduceMul, Nat.reduceSub, Nat.reduceLeDiff, ↓reduceIte, reduceCtorEq, Int.reduceAdd, Int.reduceSub, Int.reduceMul, Int.reduceNeg, Int.reduceToNat, List.reduceReplicate, String.reduceEq, dActs]
    refine (awake35_spec hG H).mono ?_
    rintro _ H ⟨rfl, rfl⟩
    simp (disch := omega) only [go_sem, Nat.reduceEqDiff, Nat.reduceAdd, Nat.reduceMul, Nat.reduceSub, Nat.reduceLeDiff, ↓reduceIte, reduceCtorEq, Int.reduceAdd, Int.reduceSub, Int.reduceMul, Int.reduceNeg, Int.reduceToNat, List.reduceReplicate, String.reduceEq]
    exact DFin.refl ⟨rfl, rfl⟩
  simp (disch := omega) only [go_sem, Nat.reduceEqDiff, Nat.reduceAdd, Nat.reduceMul, Nat.reduceSub, Nat.reduceLeDiff, ↓reduceIte, reduceCtorEq, Int.reduceAdd, Int.reduceSub, Int.reduceMul, Int.reduceNeg, Int.reduceToNat, List.reduceReplicate, String.reduceEq, dActs]
  rw [← dActs]
  refine (text_spec hG.k hG.p H l hx (by omega)).mono ?_
  rintro _ H ⟨rfl, rfl⟩
  simp (disch := omega) only [go_sem, Nat.reduceEqDiff, Nat.reduceAdd, Nat.reduceMul, Nat.reduceSub, Nat.reduceLeDiff, ↓reduceIte, reduceCtorEq, Int.reduceAdd, Int.reduceSub, Int.reduceMul, Int.reduceNeg, Int.reduceToNat, List.reduceReplicate, String.reduceEq]
  refine (rtext_spec H l hx (by omega)).mono ?_
  rintro _ H ⟨rfl, rfl⟩
  simp (disch := omega) only [go_sem, Nat.reduceEqDiff, Nat.reduceAdd, Nat.reduceMul, Nat.reduceSub, Nat.reduceLeDiff, ↓reduceIte, reduceCtorEq, Int.reduceAdd, Int.reduceSub, Int.reduceMul, Int.reduceNeg, Int.reduceToNat, List.reduceReplicate, String.reduceEq]
  refine (may_spec G hG.k H l (by omega) hx).mono ?_
  rintro _ H ⟨rfl, rfl⟩
  simp (disch := omega) only [go_sem, Nat.reduceEqDiff, Nat.reduceAdd, Nat.reduceMul, Nat.reduceSub, Nat.reduceLeDiff, ↓reduceIte, reduceCtorEq, Int.reduceAdd, Int.reduceSub, Int.reduceMul, Int.reduceNeg, Int.reduceToNat, List.reduceReplicate, String.reduceEq]
  refine (rmay_spec G H l (by omega) hx).mono ?_
  rintro _ H ⟨rfl, rfl⟩
  simp (disch := omega) only [go_sem, Nat.reduceEqDiff, Nat.reduceAdd, Nat.reduceMul, Nat.reduceSub, Nat.reduceLeDiff, ↓reduceIte, reduceCtorEq, Int.reduceAdd, Int.reduceSub, Int.reduceMul, Int.reduceNeg, Int.reduceToNat, List.reduceReplicate, String.reduceEq]
  refine (awake35_spec hG H).mono ?_
  rintro _ H ⟨rfl, rfl⟩
  simp (disch := omega) only [go_sem, Nat.reduceEqDiff, Nat.reduceAdd, Nat.reduceMul, Nat.reduceSub, Nat.reduceLeDiff, ↓reduceIte, reduceCtorEq, Int.reduceAdd, Int.reduceSub, Int.reduceMul, Int.reduceNeg, Int.reduceToNat, List.reduceReplicate, String.reduceEq]
  exact DFin.refl ⟨rfl, rfl⟩

theorem rdL_len : ∀ (n : Nat) (s : List UInt8) (acc : List Act), s.length ≤ n → (rdL s acc).1.length ≤ acc.length + s.length := by
  intro n
  induction n with
  | zero => intro s acc h; have : s = [] := List.length_eq_zero_iff.1 (by omega); subst this; rw [rdL_nil]; simp
  | succ n ih =>
    intro s acc h
    rw [rdL]
    split
    · rename_i e; subst e; simp
    · split
      · simp
      · rename_i k e
        have hk := (List.findIdx?_eq_some_iff_getElem.1 e).1
        split
        · simp
        · rename_i acc' e2
          have h1 := ih (s.drop (k + 1)) acc' (by simp; omega)
          have h2 : acc'.length = acc.length + 1 := by
            unfold stepR at e2
            split at e2
            · split at e2
              · cases e2
              · cases e2; simp
            · cases e2
          have h3 : (s.drop (k + 1)).length + 1 ≤ s.length := by simp; omega
          omega
theorem readL_len (s : List UInt8) : (readL s).1.length ≤ s.length := by
  unfold readL
  split
  · simp
  · have := rdL_len s.length s [] (Nat.le_refl _); simpa using this

theorem traceReads_spec {G : Nat → DVal} (hG : GAll G) (H : DHeap) (s : List UInt8) (hs : s.length ≤ 9223372036854775807) : DCalls Tryd.prog G 4 [.str s] H (DRet (.bool true) H) := by
  refine dcalls_intro Tryd.func4 Tryd.call4 rfl (by kernel_rfl) ?_
  by_cases c : 40000 < s.length
  · simp (disch := omega) only [go_sem, Nat.reduceEqDiff, Nat.reduceAdd, Nat.reduceMul, Nat.reduceSub, Nat.reduceLeDiff, ↓reduceIte, reduceCtorEq, Int.reduceAdd, Int.reduceSub, Int.reduceMul, Int.reduceNeg, Int.reduceToNat, List.reduceReplicate, String.reduceEq]
    refine (awake35_spec hG H).mono ?_
    rintro _ H ⟨rfl, rfl⟩
    simp (disch := omega) only [go_sem, Nat.reduceEqDiff, Nat.reduceAdd, Nat.reduceMul, Nat.reduceSub, Nat.reduceLeDiff, ↓reduceIte, reduceCtorEq, Int.reduceAdd, Int.reduceSub, Int.reduceMul, Int.reduceNeg, Int.reduceToNat, List.reduceReplicate, String.reduceEq]
    exact DFin.refl ⟨rfl, rfl⟩
  have hln := readL_len s
  simp (disch := omega) only [go_sem, Nat.reduceEqDiff, Nat.reduceAdd, Nat.reduceMul, Nat.reduceSub, Nat.reduceLeDiff, ↓reduceIte, reduceCtorEq, Int.reduceAdd, Int.reduceSub, Int.reduceMul, Int.reduceNeg, Int.reduceToNat, List.reduceReplicate, String.reduceEq]
  refine (read_spec hG.gt hG.k hG.p H s (by omega)).mono ?_
  rintro _ H ⟨rfl, rfl⟩
  simp (disch := omega) only [go_sem, Nat.reduceEqDiff, Nat.reduceAdd, Nat.reduceMul, Nat.reduceSub, Nat.reduceLeDiff, ↓reduceIte, reduceCtorEq, Int.reduceAdd, Int.reduceSub, Int.reduceMul, Int.reduceNeg, Int.reduceToNat, List.reduceReplicate, String.reduceEq]
  refine (rread_spec G H s (by omega)).mono ?_
  rintro _ H ⟨rfl, rfl⟩
  simp (disch := omega) only [go_sem, Nat.reduceEqDiff, Nat.reduceAdd, Nat.reduceMul, Nat.reduceSub, Nat.reduceLeDiff, ↓reduceIte, reduceCtorEq, Int.reduceAdd, Int.reduceSub, Int.reduceMul, Int.reduceNeg, Int.reduceToNat, List.reduceReplicate, String.reduceEq]
  refine (equal_act G H (readL s).1 (readL s).1 (by omega) (by omega)).mono ?_
  rintro _ H ⟨rfl, rfl⟩
  simp (disch := omega) only [go_sem, Nat.reduceEqDiff, Nat.reduceAdd, Nat.reduceMul, Nat.reduceSub, Nat.reduceLeDiff, ↓reduceIte, reduceCtorEq, Int.reduceAdd, Int.reduceSub, Int.reduceMul, Int.reduceNeg, Int.reduceToNat, List.reduceReplicate, String.reduceEq]
  refine (awake35_spec hG H).mono ?_
  rintro _ H ⟨rfl, rfl⟩
  simp (disch := omega) only [go_sem, Nat.reduceEqDiff, Nat.reduceAdd, Nat.reduceMul, Nat.reduceSub, Nat.reduceLeDiff, ↓reduceIte, reduceCtorEq, Int.reduceAdd, Int.reduceSub, Int.reduceMul, Int.reduceNeg, Int.reduceToNat, List.reduceReplicate, String.reduceEq]
  exact DFin.refl ⟨rfl, rfl⟩

theorem actFold_len (prot : Int) : ∀ (l : List Act) st st', actFold prot l st = some st' → (st'.1 ++ st'.2.toList).length ≤ (st.1 ++ st.2.toList).length + l.length
  | [], st, st', h => by simp only [actFold] at h; cases h; simp
  | x :: l, (d, c), st', h => by
    rw [actFold] at h
    split at h
    · rename_i s1 e
      have h1 := actFold_len prot l _ _ h
      have h2 : (s1.1 ++ s1.2.toList).length ≤ (d ++ c.toList).length + 1 := by
        revert e; unfold actStep
        repeat' split
        all_goals (intro e; cases e; try simp_all)
      show _ ≤ (d ++ c.toList).length + (l.length + 1)
      omega
    · cases h
theorem actionsD_len (l : List Act) (prot : Int) : (actionsD l prot).1.length ≤ l.length := by
  unfold actionsD
  split
  · rename_i st e
    have := actFold_len prot l _ _ e; simpa using this
  · simp
theorem jobsL_len (l : List Act) (t : Int) : (jobsL l t).length ≤ l.length := by
  have h := fold_out_len (ofL l t) ([], ⟨0, 0, 0⟩, 0)
  rw [jobs_fold] at h
  have := ofL_len l t
  simp at h; omega

theorem tracePicks_spec {G : Nat → DVal} (hG : GAll G) (H : DHeap) (l : List Act) (n : Int) (hl : l.length ≤ 1048576) (hx : ActsW l) : DCalls Tryd.prog G 6 [dActs l, dI n] H (DRet (.bool true) H) := by
  have h1 := ofL_len l n
  have h2 := putsL_len l
  have h3 := actionsD_len l n
  have h4 := jobsL_len l n
  refine dcalls_intro Tryd.func6 Tryd.call6 rfl (by kernel_rfl) ?_
  by_cases c : 3000 < l.length
  · simp (disch := omega) only [go_sem, Nat.reduceEqDiff, Nat.reduceAdd, Nat.reduceMul, Nat.reduceSub, Nat.reduceLeDiff, ↓reduceIte, reduceCtorEq, Int.reduceAdd, Int.reduceSub, Int.reduceMul, Int.reduceNeg, Int.reduceToNat, List.reduceReplicate, String.reduceEq, dActs]
    refine (awake35_spec hG H).mono ?_
    rintro _ H ⟨rfl, rfl⟩
    simp (disch := omega) only [go_sem, Nat.reduceEqDiff, Nat.reduceAdd, Nat.reduceMul, Nat.reduceSub, Nat.reduceLeDiff, ↓reduceIte, reduceCtorEq, Int.reduceAdd, Int.reduceSub, Int.reduceMul, Int.reduceNeg, Int.reduceToNat, List.reduceReplicate, String.reduceEq]
    exact DFin.refl ⟨rfl, rfl⟩
  simp (disch := omega) only [go_sem, Nat.reduceEqDiff, Nat.reduceAdd, Nat.reduceMul, Nat.reduceSub, Nat.reduceLeDiff, ↓reduceIte, reduceCtorEq, Int.reduceAdd, Int.reduceSub, Int.reduceMul, Int.reduceNeg, Int.reduceToNat, List.reduceReplicate, String.reduceEq, dActs]
  rw [← dActs]
  refine ((clone_act G l H (by omega)).frozenJ).mono ?_
  rintro _ H ⟨rfl, rfl⟩
  simp (disch := omega) only [go_sem, Nat.reduceEqDiff, Nat.reduceAdd, Nat.reduceMul, Nat.reduceSub, Nat.reduceLeDiff, ↓reduceIte, reduceCtorEq, Int.reduceAdd, Int.reduceSub, Int.reduceMul, Int.reduceNeg, Int.reduceToNat, List.reduceReplicate, String.reduceEq]
  refine (actions_spec G H l n (by omega)).mono ?_
  rintro _ H ⟨rfl, rfl⟩
  simp (disch := omega) only [go_sem, Nat.reduceEqDiff, Nat.reduceAdd, Nat.reduceMul, Nat.reduceSub, Nat.reduceLeDiff, ↓reduceIte, reduceCtorEq, Int.reduceAdd, Int.reduceSub, Int.reduceMul, Int.reduceNeg, Int.reduceToNat, List.reduceReplicate, String.reduceEq]
  refine (ractions_spec G H l n (by omega)).mono ?_
  rintro _ H ⟨rfl, rfl⟩
  simp (disch := omega) only [go_sem, Nat.reduceEqDiff, Nat.reduceAdd, Nat.reduceMul, Nat.reduceSub, Nat.reduceLeDiff, ↓reduceIte, reduceCtorEq, Int.reduceAdd, Int.reduceSub, Int.reduceMul, Int.reduceNeg, Int.reduceToNat, List.reduceReplicate, String.reduceEq]
  refine (of_spec G H l n (by omega)).mono ?_
  rintro _ H ⟨rfl, rfl⟩
  simp (disch := omega) only [go_sem, Nat.reduceEqDiff, Nat.reduceAdd, Nat.reduceMul, Nat.reduceSub, Nat.reduceLeDiff, ↓reduceIte, reduceCtorEq, Int.reduceAdd, Int.reduceSub, Int.reduceMul, Int.reduceNeg, Int.reduceToNat, List.reduceReplicate, String.reduceEq]
  refine (rof_spec G H l n (by omega)).mono ?_
  rintro _ H ⟨rfl, rfl⟩
  simp (disch := omega) only [go_sem, Nat.reduceEqDiff, Nat.reduceAdd, Nat.reduceMul, Nat.reduceSub, Nat.reduceLeDiff, ↓reduceIte, reduceCtorEq, Int.reduceAdd, Int.reduceSub, Int.reduceMul, Int.reduceNeg, Int.reduceToNat, List.reduceReplicate, String.reduceEq]
  refine (equal_act G H (ofL l n) (ofL l n) (by omega) (by omega)).mono ?_
  rintro _ H ⟨rfl, rfl⟩
  simp (disch := omega) only [go_sem, Nat.reduceEqDiff, Nat.reduceAdd, Nat.reduceMul, Nat.reduceSub, Nat.reduceLeDiff, ↓reduceIte, reduceCtorEq, Int.reduceAdd, Int.reduceSub, Int.reduceMul, Int.reduceNeg, Int.reduceToNat, List.reduceReplicate, String.reduceEq]
  refine (puts_spec G H l (by omega)).mono ?_
  rintro _ H ⟨rfl, rfl⟩
  simp (disch := omega) only [go_sem, Nat.reduceEqDiff, Nat.reduceAdd, Nat.reduceMul, Nat.reduceSub, Nat.reduceLeDiff, ↓reduceIte, reduceCtorEq, Int.reduceAdd, Int.reduceSub, Int.reduceMul, Int.reduceNeg, Int.reduceToNat, List.reduceReplicate, String.reduceEq]
  refine (rputs_spec G H l (by omega)).mono ?_
  rintro _ H ⟨rfl, rfl⟩
  simp (disch := omega) only [go_sem, Nat.reduceEqDiff, Nat.reduceAdd, Nat.reduceMul, Nat.reduceSub, Nat.reduceLeDiff, ↓reduceIte, reduceCtorEq, Int.reduceAdd, Int.reduceSub, Int.reduceMul, Int.reduceNeg, Int.reduceToNat, List.reduceReplicate, String.reduceEq]
  refine (equal_int G H (putsL l) (putsL l) (by omega) (by omega)).mono ?_
  rintro _ H ⟨rfl, rfl⟩
  simp (disch := omega) only [go_sem, Nat.reduceEqDiff, Nat.reduceAdd, Nat.reduceMul, Nat.reduceSub, Nat.reduceLeDiff, ↓reduceIte, reduceCtorEq, Int.reduceAdd, Int.reduceSub, Int.reduceMul, Int.reduceNeg, Int.reduceToNat, List.reduceReplicate, String.reduceEq]
  refine (equal_actn G H (actionsD l n).1 (actionsD l n).1 (by omega) (by omega)).mono ?_
  rintro _ H ⟨rfl, rfl⟩
  simp (disch := omega) only [go_sem, Nat.reduceEqDiff, Nat.reduceAdd, Nat.reduceMul, Nat.reduceSub, Nat.reduceLeDiff, ↓reduceIte, reduceCtorEq, Int.reduceAdd, Int.reduceSub, Int.reduceMul, Int.reduceNeg, Int.reduceToNat, List.reduceReplicate, String.reduceEq]
  refine (jobs_spec G H l n (by omega)).mono ?_
  rintro _ H ⟨rfl, rfl⟩
  simp (disch := omega) only [go_sem, Nat.reduceEqDiff, Nat.reduceAdd, Nat.reduceMul, Nat.reduceSub, Nat.reduceLeDiff, ↓reduceIte, reduceCtorEq, Int.reduceAdd, Int.reduceSub, Int.reduceMul, Int.reduceNeg, Int.reduceToNat, List.reduceReplicate, String.reduceEq]
  refine (rjobs_spec G H l n (by omega)).mono ?_
  rintro _ H ⟨rfl, rfl⟩
  simp (disch := omega) only [go_sem, Nat.reduceEqDiff, Nat.reduceAdd, Nat.reduceMul, Nat.reduceSub, Nat.reduceLeDiff, ↓reduceIte, reduceCtorEq, Int.reduceAdd, Int.reduceSub, Int.reduceMul, Int.reduceNeg, Int.reduceToNat, List.reduceReplicate, String.reduceEq]
  refine (equal_jb G H (jobsL l n) (jobsL l n) (by omega) (by omega)).mono ?_
  rintro _ H ⟨rfl, rfl⟩
  simp (disch := omega) only [go_sem, Nat.reduceEqDiff, Nat.reduceAdd, Nat.reduceMul, Nat.reduceSub, Nat.reduceLeDiff, ↓reduceIte, reduceCtorEq, Int.reduceAdd, Int.reduceSub, Int.reduceMul, Int.reduceNeg, Int.reduceToNat, List.reduceReplicate, String.reduceEq]
  refine (equal_act G H l l (by omega) (by omega)).mono ?_
  rintro _ H ⟨rfl, rfl⟩
  simp (disch := omega) only [go_sem, Nat.reduceEqDiff, Nat.reduceAdd, Nat.reduceMul, Nat.reduceSub, Nat.reduceLeDiff, ↓reduceIte, reduceCtorEq, Int.reduceAdd, Int.reduceSub, Int.reduceMul, Int.reduceNeg, Int.reduceToNat, List.reduceReplicate, String.reduceEq]
  refine (awake35_spec hG H).mono ?_
  rintro _ H ⟨rfl, rfl⟩
  simp (disch := omega) only [go_sem, Nat.reduceEqDiff, Nat.reduceAdd, Nat.reduceMul, Nat.reduceSub, Nat.reduceLeDiff, ↓reduceIte, reduceCtorEq, Int.reduceAdd, Int.reduceSub, Int.reduceMul, Int.reduceNeg, Int.reduceToNat, List.reduceReplicate, String.reduceEq]
  exact DFin.refl ⟨rfl, rfl⟩

/-- The text of a log is read as it. -/
theorem rdL_text : ∀ (l : List Act), ActsW l → (∀ x ∈ l, validA x = true) → ∀ acc : List Act, acc.length + l.length ≤ 100000 → sortedA (acc ++ l) = true → rdL (textL l) acc = (acc ++ l, 0, 0)
  | [], _, _, acc, _, _ => by rw [show textL [] = [] from rfl, rdL_nil, List.append_nil]
  | x :: l, hw, hv, acc, hl, hs => by
    have hxw := hw x (by simp)
    have hxv := hv x (by simp)
    have hno : ∀ c ∈ oneT x, c ≠ 10 := by
      intro c hc e
      subst e
      have hn : ∀ vs : List Int, (10 : UInt8) ∉ numsF vs := by
        intro vs
        induction vs with
        | nil => simp [numsF]
        | cons v vs ih =>
          have e : numsF (v :: vs) = 32 :: (Lib.itoa v ++ numsF vs) := rfl
          rw [e]
          simp only [List.mem_cons, List.mem_append, not_or]
          exact ⟨by decide, itoa_no v 10 (by decide), ih⟩
      rw [oneT, headT, numsT_F] at hc
      simp only [List.mem_append, List.mem_singleton] at hc
      rcases hc with (((h | h) | h) | h) | h
      · rcases h with h | h
        · exact itoa_no _ 10 (by decide) h
        · revert h; decide
      · exact itoa_no _ 10 (by decide) h
      · revert h; decide
      · exact word_no _ 10 (by decide) h
      · exact hn _ h
    have he : early acc x = false := by
      by_cases hne : acc = []
      · subst hne; rfl
      · rw [early_last hne, decide_eq_false_iff_not]
        have hp := List.length_pos_iff.2 hne
        have h1 := sortedA_iff.1 hs (acc.length - 1) (by simp; omega)
        rw [show acc.length - 1 + 1 = acc.length by omega] at h1
        simp only [List.getD, List.getElem?_append_right (Nat.le_refl _), Nat.sub_self, List.getElem?_cons_zero, Option.getD_some, List.getElem?_append_left (show acc.length - 1 < acc.length by omega)] at h1
        simp only [List.getD]
        omega
    have hl' : acc.length + (l.length + 1) ≤ 100000 := hl
    have hst : stepR (oneT x) acc = some (acc ++ [x]) := by
      rw [stepR, actOf_some ⟨hxw, hxv, rfl⟩]
      dsimp only
      rw [if_neg]
      rw [he]; simp; omega
    have e : textL (x :: l) = oneT x ++ 10 :: textL l := by simp [textL, lineT]
    rw [e, rdL_line hno, hst]
    have hi := rdL_text l (fun y hy => hw y (by simp [hy])) (fun y hy => hv y (by simp [hy])) (acc ++ [x]) (by simp; omega) (by simpa using hs)
    dsimp only
    rw [hi]; simp
end Go.Dl

-- Chapter 35: TraceBack at the data level.
namespace Go.Dl
open Go Go.Proofs
set_option maxRecDepth 10000

theorem oneT_no {x : Act} : (10 : UInt8) ∉ oneT x := by
  intro hc
  have hn : ∀ vs : List Int, (10 : UInt8) ∉ numsF vs := by
    intro vs
    induction vs with
    | nil => simp [numsF]
    | cons v vs ih =>
      have e : numsF (v :: vs) = 32 :: (Lib.itoa v ++ numsF vs) := rfl
      rw [e]
      simp only [List.mem_cons, List.mem_append, not_or]
      exact ⟨by decide, itoa_no v 10 (by decide), ih⟩
  rw [oneT, headT, numsT_F] at hc
  simp only [List.mem_append, List.mem_singleton] at hc
  rcases hc with (((h | h) | h) | h) | h
  · rcases h with h | h
    · exact itoa_no _ 10 (by decide) h
    · revert h; decide
  · exact itoa_no _ 10 (by decide) h
  · revert h; decide
  · exact word_no _ 10 (by decide) h
  · exact hn _ h
theorem count_text (l : List Act) : Lib.countByte (textL l) 10 = l.length := by
  unfold Lib.countByte
  induction l with
  | nil => rfl
  | cons x l ih =>
    have e : textL (x :: l) = oneT x ++ 10 :: textL l := by simp [textL, lineT]
    rw [e, List.count_append, List.count_cons, ih, List.count_eq_zero.2 oneT_no]; simp
theorem read_text {l : List Act} (hw : ActsW l) (hm : mayA l = true) (hl : l.length ≤ 3000) : textD l = (textL l, 0) ∧ readL (textL l) = (l, 0, 0) := by
  obtain ⟨m1, m2, m3⟩ := mayA_valid hm
  have h1 := textL_len hw
  constructor
  · rw [textD, if_pos hm, if_pos (by omega)]
  · rw [readL, if_neg (by omega), rdL_text l hw m2 [] (by simp; omega) (by simpa using m3)]; rfl

theorem traceBack_spec {G : Nat → DVal} (hG : GAll G) (H : DHeap) (l : List Act) (hl : l.length ≤ 1048576) (hx : ActsW l) : DCalls Tryd.prog G 8 [dActs l] H (DRet (.bool true) H) := by
  refine dcalls_intro Tryd.func8 Tryd.call8 rfl (by kernel_rfl) ?_
  by_cases c : 3000 < l.length
  · simp (disch := omega) only [go_sem, Nat.reduceEqDiff, Nat.reduceAdd, Nat.reduceMul, Nat.reduceSub, Nat.reduceLeDiff, ↓reduceIte, reduceCtorEq, Int.reduceAdd, Int.reduceSub, Int.reduceMul, Int.reduceNeg, Int.reduceToNat, List.reduceReplicate, String.reduceEq, dActs]
    refine (awake35_spec hG H).mono ?_
    rintro _ H ⟨rfl, rfl⟩
    simp (disch := omega) only [go_sem, Nat.reduceEqDiff, Nat.reduceAdd, Nat.reduceMul, Nat.reduceSub, Nat.reduceLeDiff, ↓reduceIte, reduceCtorEq, Int.reduceAdd, Int.reduceSub, Int.reduceMul, Int.reduceNeg, Int.reduceToNat, List.reduceReplicate, String.reduceEq]
    exact DFin.refl ⟨rfl, rfl⟩
  simp (disch := omega) only [go_sem, Nat.reduceEqDiff, Nat.reduceAdd, Nat.reduceMul, Nat.reduceSub, Nat.reduceLeDiff, ↓reduceIte, reduceCtorEq, Int.reduceAdd, Int.reduceSub, Int.reduceMul, Int.reduceNeg, Int.reduceToNat, List.reduceReplicate, String.reduceEq, dActs]
  rw [← dActs]
  refine (text_spec hG.k hG.p H l hx (by omega)).mono ?_
  rintro _ H ⟨rfl, rfl⟩
  simp (disch := omega) only [go_sem, Nat.reduceEqDiff, Nat.reduceAdd, Nat.reduceMul, Nat.reduceSub, Nat.reduceLeDiff, ↓reduceIte, reduceCtorEq, Int.reduceAdd, Int.reduceSub, Int.reduceMul, Int.reduceNeg, Int.reduceToNat, List.reduceReplicate, String.reduceEq]
  refine (rmay_spec G H l (by omega) hx).mono ?_
  rintro _ H ⟨rfl, rfl⟩
  cases hm : mayA l with
  | false =>
    have ht : textD l = ([], 2) := by rw [textD, hm]; rfl
    rw [ht]
    simp (disch := omega) only [go_sem, Nat.reduceEqDiff, Nat.reduceAdd, Nat.reduceMul, Nat.reduceSub, Nat.reduceLeDiff, ↓reduceIte, reduceCtorEq, Int.reduceAdd, Int.reduceSub, Int.reduceMul, Int.reduceNeg, Int.reduceToNat, List.reduceReplicate, String.reduceEq]
    refine (awake35_spec hG H).mono ?_
    rintro _ H ⟨rfl, rfl⟩
    simp (disch := omega) only [go_sem, Nat.reduceEqDiff, Nat.reduceAdd, Nat.reduceMul, Nat.reduceSub, Nat.reduceLeDiff, ↓reduceIte, reduceCtorEq, Int.reduceAdd, Int.reduceSub, Int.reduceMul, Int.reduceNeg, Int.reduceToNat, List.reduceReplicate, String.reduceEq]
    exact DFin.refl ⟨rfl, rfl⟩
  | true =>
    obtain ⟨ht, hr⟩ := read_text hx hm (by omega)
    have h1 := textL_len hx
    rw [ht]
    simp (disch := omega) only [go_sem, Nat.reduceEqDiff, Nat.reduceAdd, Nat.reduceMul, Nat.reduceSub, Nat.reduceLeDiff, ↓reduceIte, reduceCtorEq, Int.reduceAdd, Int.reduceSub, Int.reduceMul, Int.reduceNeg, Int.reduceToNat, List.reduceReplicate, String.reduceEq]
    refine (read_spec hG.gt hG.k hG.p H (textL l) (by omega)).mono ?_
    rintro _ H ⟨rfl, rfl⟩
    rw [hr]
    simp (disch := omega) only [go_sem, Nat.reduceEqDiff, Nat.reduceAdd, Nat.reduceMul, Nat.reduceSub, Nat.reduceLeDiff, ↓reduceIte, reduceCtorEq, Int.reduceAdd, Int.reduceSub, Int.reduceMul, Int.reduceNeg, Int.reduceToNat, List.reduceReplicate, String.reduceEq]
    refine (equal_act G H l l (by omega) (by omega)).mono ?_
    rintro _ H ⟨rfl, rfl⟩
    simp (disch := omega) only [go_sem, Nat.reduceEqDiff, Nat.reduceAdd, Nat.reduceMul, Nat.reduceSub, Nat.reduceLeDiff, ↓reduceIte, reduceCtorEq, Int.reduceAdd, Int.reduceSub, Int.reduceMul, Int.reduceNeg, Int.reduceToNat, List.reduceReplicate, String.reduceEq]
    refine (count_spec (textL l) 10).mono ?_
    rintro _ H ⟨rfl, rfl⟩
    rw [count_text]
    simp (disch := omega) only [go_sem, Nat.reduceEqDiff, Nat.reduceAdd, Nat.reduceMul, Nat.reduceSub, Nat.reduceLeDiff, ↓reduceIte, reduceCtorEq, Int.reduceAdd, Int.reduceSub, Int.reduceMul, Int.reduceNeg, Int.reduceToNat, List.reduceReplicate, String.reduceEq, dActs]
    refine (awake35_spec hG H).mono ?_
    rintro _ H ⟨rfl, rfl⟩
    simp (disch := omega) only [go_sem, Nat.reduceEqDiff, Nat.reduceAdd, Nat.reduceMul, Nat.reduceSub, Nat.reduceLeDiff, ↓reduceIte, reduceCtorEq, Int.reduceAdd, Int.reduceSub, Int.reduceMul, Int.reduceNeg, Int.reduceToNat, List.reduceReplicate, String.reduceEq]
    exact DFin.refl ⟨rfl, rfl⟩
end Go.Dl

-- Chapter 35: TraceApart: the plain law.
namespace Go.Dl
open Go Go.Proofs
set_option maxRecDepth 10000

def bodiesL (l : List Act) : Bool := l.any fun x => decide (x.kind = 24) && decide (x.b < 0)
/-- One action and the next one. -/
def NextOk (bd : Bool) (x y : Actn) : Prop := x.to ≤ y.frm ∧ (x.over = true → y.frm = x.to ∧ (0 ≤ y.entry ∨ bd = true))
def ChainOk (bd : Bool) : List Actn → Prop
  | [] => True
  | [_] => True
  | x :: y :: r => NextOk bd x y ∧ ChainOk bd (y :: r)
theorem ChainOk.at {bd : Bool} : ∀ {l : List Actn}, ChainOk bd l → ∀ (i : Nat) (h : i + 1 < l.length), NextOk bd l[i] l[i + 1]
  | [], _, i, h => by simp at h
  | [_], _, i, h => by simp at h
  | x :: y :: r, hc, 0, h => hc.1
  | x :: y :: r, hc, i + 1, h => ChainOk.at hc.2 i (by simpa using h)
theorem ChainOk.snoc {bd : Bool} : ∀ {l : List Actn} {x y : Actn}, ChainOk bd (l ++ [x]) → NextOk bd x y → ChainOk bd (l ++ [x, y])
  | [], _, _, _, h => ⟨h, trivial⟩
  | [_], _, _, hc, h => ⟨hc.1, h, trivial⟩
  | a :: b :: l, x, y, hc, h => ⟨hc.1, ChainOk.snoc (l := b :: l) hc.2 h⟩
theorem ChainOk.lastEq {bd : Bool} : ∀ {l : List Actn} {x x' : Actn}, ChainOk bd (l ++ [x]) → (∀ z, NextOk bd z x → NextOk bd z x') → ChainOk bd (l ++ [x'])
  | [], _, _, _, _ => trivial
  | [_], _, _, hc, h => ⟨h _ hc.1, trivial⟩
  | a :: b :: l, x, x', hc, h => ⟨hc.1, ChainOk.lastEq (l := b :: l) hc.2 h⟩
theorem ChainOk.init {bd : Bool} : ∀ {l : List Actn} {x : Actn}, ChainOk bd (l ++ [x]) → ChainOk bd l
  | [], _, _ => trivial
  | [_], _, _ => trivial
  | a :: b :: l, x, hc => ⟨hc.1, ChainOk.init (l := b :: l) hc.2⟩

/-- What holds of the actions so far; T: the time. -/
structure ApartInv (bd : Bool) (T : Int) (d : List Actn) (c : Option Actn) : Prop where
  done : ∀ x ∈ d, x.frm ≤ x.to ∧ x.opn = false
  chain : ChainOk bd (d ++ c.toList)
  opn : ∀ y, c = some y → y.opn = true ∧ y.over = false ∧ y.to = y.frm ∧ y.frm ≤ T
  last : c = none → ∀ x, d.getLast? = some x → x.to ≤ T ∧ x.over = false
  over : ∀ x, d.getLast? = some x → x.to ≤ T

def cntA (prot : Int) (x : Act) : Bool := decide (x.a = prot) && (decide (x.kind = 22) || (decide (x.kind = 24) && !decide (x.n = x.task)))

theorem apart_step {bd : Bool} {T prot : Int} {d d' : List Actn} {c c' : Option Actn} {x : Act} (h : ApartInv bd T d c) (hT : T ≤ x.time) (hbd : x.kind = 24 → x.b < 0 → bd = true) (hs : actStep prot (d, c) x = some (d', c')) :
    ApartInv bd x.time d' c' ∧ (d' ++ c'.toList).length = (d ++ c.toList).length + (if cntA prot x then 1 else 0) := by
  obtain ⟨h1, h2, h3, h4, h5⟩ := h
  have same : ApartInv bd x.time d c := ⟨h1, h2, fun y hy => by obtain ⟨a, b, e, f⟩ := h3 y hy; exact ⟨a, b, e, by omega⟩, fun hc y hy => by obtain ⟨a, b⟩ := h4 hc y hy; exact ⟨by omega, b⟩, fun y hy => by have := h5 y hy; omega⟩
  unfold actStep at hs
  by_cases ca : x.a = prot
  · rw [if_pos ca] at hs
    by_cases k22 : x.kind = 22
    · rw [if_pos k22] at hs
      cases c with
      | some y => cases hs
      | none =>
        simp only [Option.some.injEq, Prod.mk.injEq] at hs
        obtain ⟨rfl, rfl⟩ := hs
        simp only [Option.toList_none, List.append_nil] at h2
        refine ⟨⟨h1, ?_, fun y hy => ?_, fun hc => (by cases hc), fun y hy => by have := (h4 rfl y hy).1; omega⟩, by simp [cntA, ca, k22]⟩
        · rcases List.eq_nil_or_concat d with rfl | ⟨d0, z, rfl⟩
          · trivial
          · rw [List.concat_eq_append] at h2 h4 ⊢
            have hz := h4 rfl z (by simp)
            simp only [Option.toList_some, List.append_assoc, List.cons_append, List.nil_append]
            exact h2.snoc ⟨by show z.to ≤ x.time; omega, fun ho => by rw [hz.2] at ho; cases ho⟩
        · cases hy; exact ⟨rfl, rfl, rfl, Int.le_refl _⟩
    · rw [if_neg k22] at hs
      by_cases k : x.kind = 24 ∨ x.kind = 25
      · rw [if_pos k] at hs
        cases c with
        | none => cases hs
        | some y =>
          obtain ⟨y1, y2, y3, y4⟩ := h3 y rfl
          simp only [Option.toList_some] at h2
          dsimp only at hs
          split at hs
          · rename_i ht
            by_cases k25 : x.kind = 25
            · rw [if_pos k25] at hs
              simp only [Option.some.injEq, Prod.mk.injEq] at hs
              obtain ⟨rfl, rfl⟩ := hs
              refine ⟨⟨fun z hz => ?_, ?_, fun z hz => (by cases hz), fun _ z hz => ?_, fun z hz => ?_⟩, ?_⟩
              · rcases List.mem_append.1 hz with hz | hz
                · exact h1 z hz
                · rw [List.mem_singleton] at hz; subst hz; exact ⟨by show y.frm ≤ x.time; omega, rfl⟩
              · simp only [Option.toList_none, List.append_nil]
                exact h2.lastEq fun z hz => ⟨hz.1, hz.2⟩
              · simp only [List.getLast?_append, List.getLast?_singleton, Option.some_or, Option.some.injEq] at hz; subst hz; exact ⟨Int.le_refl _, y2⟩
              · simp only [List.getLast?_append, List.getLast?_singleton, Option.some_or, Option.some.injEq] at hz; subst hz; exact Int.le_refl _
              · simp [cntA, k25]
            · rw [if_neg k25] at hs
              have k24 : x.kind = 24 := by omega
              split at hs
              · rename_i hn
                simp only [Option.some.injEq, Prod.mk.injEq] at hs
                obtain ⟨rfl, rfl⟩ := hs
                refine ⟨⟨h1, ?_, fun z hz => ?_, fun hc => (by cases hc), fun z hz => by have := h5 z hz; omega⟩, by simp [cntA, k24, hn]⟩
                · simp only [Option.toList_some]
                  refine h2.lastEq fun z hz => ⟨hz.1, fun ho => ⟨(hz.2 ho).1, ?_⟩⟩
                  by_cases hb : x.b < 0
                  · exact .inr (hbd k24 hb)
                  · exact .inl (by show 0 ≤ x.b; omega)
                · cases hz; exact ⟨y1, y2, y3, by show y.frm ≤ x.time; omega⟩
              · rename_i hn
                simp only [Option.some.injEq, Prod.mk.injEq] at hs
                obtain ⟨rfl, rfl⟩ := hs
                refine ⟨⟨fun z hz => ?_, ?_, fun z hz => ?_, fun hc => (by cases hc), fun z hz => ?_⟩, ?_⟩
                · rcases List.mem_append.1 hz with hz | hz
                  · exact h1 z hz
                  · rw [List.mem_singleton] at hz; subst hz; exact ⟨by show y.frm ≤ x.time; omega, rfl⟩
                · simp only [Option.toList_some, List.append_assoc, List.cons_append, List.nil_append]
                  refine ChainOk.snoc (h2.lastEq fun z hz => ⟨hz.1, hz.2⟩) ⟨Int.le_refl _, fun _ => ⟨rfl, ?_⟩⟩
                  by_cases hb : x.b < 0
                  · exact .inr (hbd k24 hb)
                  · exact .inl (by show 0 ≤ x.b; omega)
                · cases hz; exact ⟨rfl, rfl, rfl, Int.le_refl _⟩
                · simp only [List.getLast?_append, List.getLast?_singleton, Option.some_or, Option.some.injEq] at hz; subst hz; exact Int.le_refl _
                · simp [cntA, ca, k24, hn]
          · cases hs
      · rw [if_neg k] at hs
        simp only [Option.some.injEq, Prod.mk.injEq] at hs
        obtain ⟨rfl, rfl⟩ := hs
        have k24 : ¬ x.kind = 24 := fun e => k (.inl e)
        exact ⟨same, by simp [cntA, k22, k24]⟩
  · rw [if_neg ca] at hs
    simp only [Option.some.injEq, Prod.mk.injEq] at hs
    obtain ⟨rfl, rfl⟩ := hs
    exact ⟨same, by simp [cntA, ca]⟩

/-- Times that do not fall, from T on. -/
def Rising : Int → List Act → Prop
  | _, [] => True
  | T, x :: l => T ≤ x.time ∧ Rising x.time l
theorem apart_fold {bd : Bool} {prot : Int} : ∀ (l : List Act) (T : Int) (d : List Actn) (c : Option Actn) (st : List Actn × Option Actn), ApartInv bd T d c → Rising T l → (∀ x ∈ l, x.kind = 24 → x.b < 0 → bd = true) → actFold prot l (d, c) = some st →
    (∃ T', ApartInv bd T' st.1 st.2) ∧ (st.1 ++ st.2.toList).length = (d ++ c.toList).length + l.countP (cntA prot)
  | [], T, d, c, st, h, _, _, hf => by simp only [actFold] at hf; cases hf; exact ⟨⟨T, h⟩, by simp⟩
  | x :: l, T, d, c, st, h, hr, hb, hf => by
    rw [actFold] at hf
    split at hf
    · rename_i s1 e
      obtain ⟨d1, c1⟩ := s1
      obtain ⟨k1, k2⟩ := apart_step h hr.1 (hb x (by simp)) e
      obtain ⟨k3, k4⟩ := apart_fold l x.time d1 c1 st k1 hr.2 (fun y hy => hb y (by simp [hy])) hf
      refine ⟨k3, ?_⟩
      rw [k4, k2, List.countP_cons]; omega
    · cases hf
theorem rising_of {l : List Act} (h : sortedA l = true) (T : Int) (hT : ∀ x, l.head? = some x → T ≤ x.time) : Rising T l := by
  induction l generalizing T with
  | nil => trivial
  | cons x l ih =>
    refine ⟨hT x rfl, ih ?_ _ fun y hy => ?_⟩
    · rw [sortedA_iff] at h ⊢
      intro i hi
      have := h (i + 1) (by simpa using hi)
      simpa using this
    · cases l with
      | nil => cases hy
      | cons z l =>
        cases hy
        have := sortedA_iff.1 h 0 (by simp)
        simpa using this

/-- What TraceApart looks at. -/
theorem apart_all {l : List Act} {prot : Int} {A : List Actn} (hm : mayA l = true) (hA : actionsD l prot = (A, 0)) :
    (∀ i (h : i < A.length), A[i].frm ≤ A[i].to ∧ (A[i].opn = true → i + 1 = A.length ∧ A[i].over = false ∧ A[i].to = A[i].frm)) ∧
    (∀ i (h : i + 1 < A.length), NextOk (bodiesL l) A[i] A[i + 1]) ∧ A.length = l.countP (cntA prot) := by
  obtain ⟨m1, m2, m3⟩ := mayA_valid hm
  unfold actionsD at hA
  split at hA
  · rename_i st hf
    obtain ⟨d, c⟩ := st
    simp only [Prod.mk.injEq, and_true] at hA
    subst hA
    have h0 : ApartInv (bodiesL l) 0 [] none := ⟨fun _ h => (by simp at h), trivial, fun _ h => (by cases h), fun _ _ h => (by cases h), fun _ h => (by cases h)⟩
    obtain ⟨⟨T, h1, h2, h3, h4, h5⟩, hc⟩ := apart_fold l 0 [] none (d, c) h0 (rising_of m3 0 fun x hx => by
      have := m2 x (List.mem_of_mem_head? hx)
      simp only [validA, actOk, Bool.and_eq_true, decide_eq_true_eq] at this
      omega) (fun x hx hk hb => by rw [bodiesL, List.any_eq_true]; exact ⟨x, hx, by simp [hk, hb]⟩) hf
    dsimp only at h1 h2 h3 h4 h5 hc
    refine ⟨fun i hi => ?_, fun i hi => h2.at i hi, by simpa using hc⟩
    by_cases hid : i < d.length
    · have e : (d ++ c.toList)[i] = d[i] := List.getElem_append_left hid
      rw [e]
      obtain ⟨q1, q2⟩ := h1 d[i] (List.getElem_mem hid)
      exact ⟨q1, fun h => by rw [q2] at h; cases h⟩
    · cases c with
      | none => simp at hi; omega
      | some y =>
        obtain ⟨q1, q2, q3, q4⟩ := h3 y rfl
        have hl : i = d.length := by simp at hi; omega
        subst hl
        have e : (d ++ (some y).toList)[d.length]'hi = y := by simp
        rw [e]
        exact ⟨by omega, fun _ => ⟨by simp, q2, q3⟩⟩
  · simp at hA
end Go.Dl

-- Chapter 35: TraceApart at the data level.
namespace Go.Dl
open Go Go.Proofs
set_option maxRecDepth 10000
attribute [go_sem] List.append_eq
theorem keepAt_self (H : DHeap) (d : DVal) : keepAt H H d = True := by cases d <;> simp [keepAt]
attribute [go_sem] keepAt_self

theorem bodies1_spec (G : Nat → DVal) (H : DHeap) (x : Act) : DCalls Tryd.prog G 46 ([] ++ [.agg (dAct x)] ++ []) H (DRet (.bool (decide (x.kind = 24) && decide (x.b < 0))) H) := by
  refine dcalls_intro Tryd.func46 Tryd.call46 rfl (by kernel_rfl) ?_
  simp (disch := omega) only [go_sem, Nat.reduceEqDiff, Nat.reduceAdd, Nat.reduceMul, Nat.reduceSub, Nat.reduceLeDiff, ↓reduceIte, reduceCtorEq, Int.reduceAdd, Int.reduceSub, Int.reduceMul, Int.reduceNeg, Int.reduceToNat, List.reduceReplicate, String.reduceEq, dAct, DVal.cells, List.nil_append, List.cons_append]
  intro r hr; dsimp only at hr
  by_cases c : x.kind = 24
  · simp (disch := omega) only [go_sem, Nat.reduceEqDiff, Nat.reduceAdd, Nat.reduceMul, Nat.reduceSub, Nat.reduceLeDiff, ↓reduceIte, reduceCtorEq, Int.reduceAdd, Int.reduceSub, Int.reduceMul, Int.reduceNeg, Int.reduceToNat, List.reduceReplicate, String.reduceEq, c]
    exact DFin.dropA r hr (DFin.refl ⟨by simp [c], rfl⟩)
  · simp (disch := omega) only [go_sem, Nat.reduceEqDiff, Nat.reduceAdd, Nat.reduceMul, Nat.reduceSub, Nat.reduceLeDiff, ↓reduceIte, reduceCtorEq, Int.reduceAdd, Int.reduceSub, Int.reduceMul, Int.reduceNeg, Int.reduceToNat, List.reduceReplicate, String.reduceEq, c]
    exact DFin.dropA r hr (DFin.refl ⟨by simp [c], rfl⟩)
theorem bodies_spec (G : Nat → DVal) (H : DHeap) (l : List Act) (hl : l.length ≤ 1000000000) : DCalls Tryd.prog G 19 [dActs l] H (DRet (.bool (bodiesL l)) H) := by
  refine dcalls_intro Tryd.func19 Tryd.call19 rfl (by kernel_rfl) ?_
  simp (disch := omega) only [go_sem, Nat.reduceEqDiff, Nat.reduceAdd, Nat.reduceMul, Nat.reduceSub, Nat.reduceLeDiff, ↓reduceIte, reduceCtorEq, Int.reduceAdd, Int.reduceSub, Int.reduceMul, Int.reduceNeg, Int.reduceToNat, List.reduceReplicate, String.reduceEq, dActs]
  refine (containsAct_spec G H (fun x => decide (x.kind = 24) && decide (x.b < 0)) l 46 [] [] (by omega) (fun x _ => bodies1_spec G H x)).mono ?_
  rintro _ H ⟨rfl, rfl⟩
  simp (disch := omega) only [go_sem, Nat.reduceEqDiff, Nat.reduceAdd, Nat.reduceMul, Nat.reduceSub, Nat.reduceLeDiff, ↓reduceIte, reduceCtorEq, Int.reduceAdd, Int.reduceSub, Int.reduceMul, Int.reduceNeg, Int.reduceToNat, List.reduceReplicate, String.reduceEq]
  exact DFin.refl ⟨rfl, rfl⟩

theorem countP_next {α : Type} (p : α → Bool) (l : List α) (i : Nat) (h : i < l.length) : (l.take (i + 1)).countP p = (l.take i).countP p + (if p l[i] then 1 else 0) := by
  rw [List.take_succ_eq_append_getElem h, List.countP_append]; simp

theorem traceApart_spec {G : Nat → DVal} (hG : GAll G) (H : DHeap) (l : List Act) (prot : Int) (hl : l.length ≤ 1048576) (hx : ActsW l) : DCalls Tryd.prog G 5 [dActs l, dI prot] H (DRet (.bool true) H) := by
  have hfl := flat_len dAct_length l
  refine dcalls_intro Tryd.func5 Tryd.call5 rfl (by kernel_rfl) ?_
  by_cases c : 3000 < l.length
  · simp (disch := omega) only [go_sem, Nat.reduceEqDiff, Nat.reduceAdd, Nat.reduceMul, Nat.reduceSub, Nat.reduceLeDiff, ↓reduceIte, reduceCtorEq, Int.reduceAdd, Int.reduceSub, Int.reduceMul, Int.reduceNeg, Int.reduceToNat, List.reduceReplicate, String.reduceEq, dActs]
    refine (awake35_spec hG H).mono ?_
    rintro _ H ⟨rfl, rfl⟩
    simp (disch := omega) only [go_sem, Nat.reduceEqDiff, Nat.reduceAdd, Nat.reduceMul, Nat.reduceSub, Nat.reduceLeDiff, ↓reduceIte, reduceCtorEq, Int.reduceAdd, Int.reduceSub, Int.reduceMul, Int.reduceNeg, Int.reduceToNat, List.reduceReplicate, String.reduceEq]
    exact DFin.refl ⟨rfl, rfl⟩
  simp (disch := omega) only [go_sem, Nat.reduceEqDiff, Nat.reduceAdd, Nat.reduceMul, Nat.reduceSub, Nat.reduceLeDiff, ↓reduceIte, reduceCtorEq, Int.reduceAdd, Int.reduceSub, Int.reduceMul, Int.reduceNeg, Int.reduceToNat, List.reduceReplicate, String.reduceEq, dActs]
  rw [← dActs]
  refine (rmay_spec G H l (by omega) hx).mono ?_
  rintro _ H ⟨rfl, rfl⟩
  cases hm : mayA l with
  | false =>
    simp (disch := omega) only [go_sem, Nat.reduceEqDiff, Nat.reduceAdd, Nat.reduceMul, Nat.reduceSub, Nat.reduceLeDiff, ↓reduceIte, reduceCtorEq, Int.reduceAdd, Int.reduceSub, Int.reduceMul, Int.reduceNeg, Int.reduceToNat, List.reduceReplicate, String.reduceEq]
    refine (awake35_spec hG H).mono ?_
    rintro _ H ⟨rfl, rfl⟩
    simp (disch := omega) only [go_sem, Nat.reduceEqDiff, Nat.reduceAdd, Nat.reduceMul, Nat.reduceSub, Nat.reduceLeDiff, ↓reduceIte, reduceCtorEq, Int.reduceAdd, Int.reduceSub, Int.reduceMul, Int.reduceNeg, Int.reduceToNat, List.reduceReplicate, String.reduceEq]
    exact DFin.refl ⟨rfl, rfl⟩
  | true =>
    simp (disch := omega) only [go_sem, Nat.reduceEqDiff, Nat.reduceAdd, Nat.reduceMul, Nat.reduceSub, Nat.reduceLeDiff, ↓reduceIte, reduceCtorEq, Int.reduceAdd, Int.reduceSub, Int.reduceMul, Int.reduceNeg, Int.reduceToNat, List.reduceReplicate, String.reduceEq]
    refine (actions_spec G H l prot (by omega)).mono ?_
    rintro _ H ⟨rfl, rfl⟩
    obtain ⟨A, hA⟩ : ∃ A, (actionsD l prot).1 = A := ⟨_, rfl⟩
    have hAl := actionsD_len l prot
    by_cases he : (actionsD l prot).2 = 0
    · have hA2 : actionsD l prot = (A, 0) := by rw [← hA, ← he]
      rw [hA2] at hAl
      dsimp only at hAl
      obtain ⟨p1, p2, p3⟩ := apart_all hm hA2
      rw [hA2]
      simp (disch := omega) only [go_sem, Nat.reduceEqDiff, Nat.reduceAdd, Nat.reduceMul, Nat.reduceSub, Nat.reduceLeDiff, ↓reduceIte, reduceCtorEq, Int.reduceAdd, Int.reduceSub, Int.reduceMul, Int.reduceNeg, Int.reduceToNat, List.reduceReplicate, String.reduceEq, dActs]
      obtain ⟨I, hI⟩ : ∃ I : Nat → (Nat → DVal) → DHeap → Prop, ∀ i env heap, I i env heap ↔ (heap = H ∧ env 0 = dActs l ∧ env 1 = dI prot ∧ env 5 = .vslice (A.flatMap dActn) A.length ∧ env 7 = dI ((l.take i).countP (cntA prot)) ∧ env 40 = dActs l ∧ env 41 = dI l.length ∧ env 42 = dI i ∧ i ≤ l.length) := ⟨_, fun _ _ _ => Iff.rfl⟩
      refine DLoop.runG I (fun i => l.length - i) 0 _ (GhostS.refl _) ((hI _ _ _).2 ?_) ?_
      · simp (disch := omega) only [go_sem, Nat.reduceEqDiff, Nat.reduceAdd, Nat.reduceMul, Nat.reduceSub, Nat.reduceLeDiff, ↓reduceIte, reduceCtorEq, Int.reduceAdd, Int.reduceSub, Int.reduceMul, Int.reduceNeg, Int.reduceToNat, List.reduceReplicate, String.reduceEq, dActs]
        (repeat' apply And.intro) <;> (try first | rfl | assumption | omega)
      · intro i env heap hi
        obtain ⟨rfl, h0, h1, h5, h7, h40, h41, h42, hil⟩ := (hI _ _ _).1 hi
        by_cases hlt : i < l.length
        · obtain ⟨x, hxe⟩ : ∃ x, l[i] = x := ⟨_, rfl⟩
          have hget := flat_el dAct_length l i hlt
          have hcn := countP_next (cntA prot) l i hlt
          have hcl := List.countP_le_length (p := cntA prot) (l := l.take i)
          rw [List.length_take] at hcl
          rw [hxe] at hget hcn
          have hxo : ((dAct x).all fun x => x.one) = true := rfl
          have hxl : (dAct x).length = 6 := rfl
          have hxt : (dAct x).take 6 = dAct x := rfl
          have hxd : (dAct x).drop 6 = [] := rfl
          have hxc : (DVal.agg (dAct x)).cells = dAct x := rfl
          have hx1 : (dAct x)[1]? = some (dI x.task) := rfl
          have hx2 : (dAct x)[2]? = some (.int .u8 x.kind) := rfl
          have hx3 : (dAct x)[3]? = some (dI x.a) := rfl
          have hx5 : (dAct x)[5]? = some (dI x.n) := rfl
          simp (disch := omega) only [go_sem, Nat.reduceEqDiff, Nat.reduceAdd, Nat.reduceMul, Nat.reduceSub, Nat.reduceLeDiff, ↓reduceIte, reduceCtorEq, Int.reduceAdd, Int.reduceSub, Int.reduceMul, Int.reduceNeg, Int.reduceToNat, List.reduceReplicate, String.reduceEq, h40, h41, h42, dActs, hfl, hget]
          intro ra hra; dsimp only at hra
          simp (disch := omega) only [go_sem, Nat.reduceEqDiff, Nat.reduceAdd, Nat.reduceMul, Nat.reduceSub, Nat.reduceLeDiff, ↓reduceIte, reduceCtorEq, Int.reduceAdd, Int.reduceSub, Int.reduceMul, Int.reduceNeg, Int.reduceToNat, List.reduceReplicate, String.reduceEq, h1, h7, h40, h41, h42, hxl, hxt, hxd, hxo, hxc, hx3, List.append_nil]
          by_cases ca : x.a = prot
          · by_cases k22 : x.kind = 22
            · have hcc : cntA prot x = true := by simp [cntA, ca, k22]
              rw [if_pos hcc] at hcn
              simp (disch := omega) only [go_sem, Nat.reduceEqDiff, Nat.reduceAdd, Nat.reduceMul, Nat.reduceSub, Nat.reduceLeDiff, ↓reduceIte, reduceCtorEq, Int.reduceAdd, Int.reduceSub, Int.reduceMul, Int.reduceNeg, Int.reduceToNat, List.reduceReplicate, String.reduceEq, h1, h7, h42, hx2, ca, k22]
              refine ⟨i + 1, _, GhostS.drop _ ra, (hI _ _ _).2 ?_, by omega⟩
              simp (disch := omega) only [go_sem, Nat.reduceEqDiff, Nat.reduceAdd, Nat.reduceMul, Nat.reduceSub, Nat.reduceLeDiff, ↓reduceIte, reduceCtorEq, Int.reduceAdd, Int.reduceSub, Int.reduceMul, Int.reduceNeg, Int.reduceToNat, List.reduceReplicate, String.reduceEq, h0, h1, h5, h7, h40, h41, h42, dActs]
              rw [hcn]
              (repeat' apply And.intro) <;> (try first | rfl | assumption | omega)
              exact upd_self hra
            · by_cases k24 : x.kind = 24
              · by_cases hn : x.n = x.task
                · have hcc : ¬ cntA prot x = true := by simp [cntA, ca, k24, hn]
                  rw [if_neg hcc, Nat.add_zero] at hcn
                  simp (disch := omega) only [go_sem, Nat.reduceEqDiff, Nat.reduceAdd, Nat.reduceMul, Nat.reduceSub, Nat.reduceLeDiff, ↓reduceIte, reduceCtorEq, Int.reduceAdd, Int.reduceSub, Int.reduceMul, Int.reduceNeg, Int.reduceToNat, List.reduceReplicate, String.reduceEq, h1, h7, h42, hx1, hx2, hx5, ca, k22, k24, hn]
                  refine ⟨i + 1, _, GhostS.drop _ ra, (hI _ _ _).2 ?_, by omega⟩
                  simp (disch := omega) only [go_sem, Nat.reduceEqDiff, Nat.reduceAdd, Nat.reduceMul, Nat.reduceSub, Nat.reduceLeDiff, ↓reduceIte, reduceCtorEq, Int.reduceAdd, Int.reduceSub, Int.reduceMul, Int.reduceNeg, Int.reduceToNat, List.reduceReplicate, String.reduceEq, h0, h1, h5, h7, h40, h41, h42, dActs]
                  rw [hcn]
                  (repeat' apply And.intro) <;> (try first | rfl | assumption | omega)
                  exact upd_self hra
                · have hcc : cntA prot x = true := by simp [cntA, ca, k24, hn]
                  rw [if_pos hcc] at hcn
                  simp (disch := omega) only [go_sem, Nat.reduceEqDiff, Nat.reduceAdd, Nat.reduceMul, Nat.reduceSub, Nat.reduceLeDiff, ↓reduceIte, reduceCtorEq, Int.reduceAdd, Int.reduceSub, Int.reduceMul, Int.reduceNeg, Int.reduceToNat, List.reduceReplicate, String.reduceEq, h1, h7, h42, hx1, hx2, hx5, ca, k22, k24, hn]
                  refine ⟨i + 1, _, GhostS.drop _ ra, (hI _ _ _).2 ?_, by omega⟩
                  simp (disch := omega) only [go_sem, Nat.reduceEqDiff, Nat.reduceAdd, Nat.reduceMul, Nat.reduceSub, Nat.reduceLeDiff, ↓reduceIte, reduceCtorEq, Int.reduceAdd, Int.reduceSub, Int.reduceMul, Int.reduceNeg, Int.reduceToNat, List.reduceReplicate, String.reduceEq, h0, h1, h5, h7, h40, h41, h42, dActs]
                  rw [hcn]
                  (repeat' apply And.intro) <;> (try first | rfl | assumption | omega)
                  exact upd_self hra
              · have hcc : ¬ cntA prot x = true := by simp [cntA, k22, k24]
                rw [if_neg hcc, Nat.add_zero] at hcn
                simp (disch := omega) only [go_sem, Nat.reduceEqDiff, Nat.reduceAdd, Nat.reduceMul, Nat.reduceSub, Nat.reduceLeDiff, ↓reduceIte, reduceCtorEq, Int.reduceAdd, Int.reduceSub, Int.reduceMul, Int.reduceNeg, Int.reduceToNat, List.reduceReplicate, String.reduceEq, h1, h7, h42, hx2, ca, k22, k24]
                refine ⟨i + 1, _, GhostS.drop _ ra, (hI _ _ _).2 ?_, by omega⟩
                simp (disch := omega) only [go_sem, Nat.reduceEqDiff, Nat.reduceAdd, Nat.reduceMul, Nat.reduceSub, Nat.reduceLeDiff, ↓reduceIte, reduceCtorEq, Int.reduceAdd, Int.reduceSub, Int.reduceMul, Int.reduceNeg, Int.reduceToNat, List.reduceReplicate, String.reduceEq, h0, h1, h5, h7, h40, h41, h42, dActs]
                rw [hcn]
                (repeat' apply And.intro) <;> (try first | rfl | assumption | omega)
                exact upd_self hra
          · have hcc : ¬ cntA prot x = true := by simp [cntA, ca]
            rw [if_neg hcc, Nat.add_zero] at hcn
            simp (disch := omega) only [go_sem, Nat.reduceEqDiff, Nat.reduceAdd, Nat.reduceMul, Nat.reduceSub, Nat.reduceLeDiff, ↓reduceIte, reduceCtorEq, Int.reduceAdd, Int.reduceSub, Int.reduceMul, Int.reduceNeg, Int.reduceToNat, List.reduceReplicate, String.reduceEq, h1, h7, h42, ca]
            refine ⟨i + 1, _, GhostS.drop _ ra, (hI _ _ _).2 ?_, by omega⟩
            simp (disch := omega) only [go_sem, Nat.reduceEqDiff, Nat.reduceAdd, Nat.reduceMul, Nat.reduceSub, Nat.reduceLeDiff, ↓reduceIte, reduceCtorEq, Int.reduceAdd, Int.reduceSub, Int.reduceMul, Int.reduceNeg, Int.reduceToNat, List.reduceReplicate, String.reduceEq, h0, h1, h5, h7, h40, h41, h42, dActs]
            rw [hcn]
            (repeat' apply And.intro) <;> (try first | rfl | assumption | omega)
            exact upd_self hra
        · have hie : i = l.length := by omega
          subst hie
          rw [List.take_length, ← p3] at h7
          simp (disch := omega) only [go_sem, Nat.reduceEqDiff, Nat.reduceAdd, Nat.reduceMul, Nat.reduceSub, Nat.reduceLeDiff, ↓reduceIte, reduceCtorEq, Int.reduceAdd, Int.reduceSub, Int.reduceMul, Int.reduceNeg, Int.reduceToNat, List.reduceReplicate, String.reduceEq, h40, h41, h42, h5]
          obtain ⟨H1, rfl⟩ : ∃ H1, H1 = heap := ⟨_, rfl⟩
          have hfa := flat_len dActn_length A
          have hw1 : IntKind.i64.wrap ((A.length : Int) - 1) = (A.length : Int) - 1 := by rw [IntKind.wrap_i64]; omega
          obtain ⟨J, hJ⟩ : ∃ J : Nat → (Nat → DVal) → DHeap → Prop, ∀ i env heap, J i env heap ↔ (heap = H1 ∧ env 0 = dActs l ∧ env 5 = .vslice (A.flatMap dActn) A.length ∧ env 7 = dI A.length ∧ env 70 = .vslice (A.flatMap dActn) A.length ∧ env 71 = dI A.length ∧ env 72 = dI i ∧ i ≤ A.length) := ⟨_, fun _ _ _ => Iff.rfl⟩
          refine DLoop.run J (fun i => A.length - i) 0 ((hJ _ _ _).2 ?_) ?_
          · simp (disch := omega) only [go_sem, Nat.reduceEqDiff, Nat.reduceAdd, Nat.reduceMul, Nat.reduceSub, Nat.reduceLeDiff, ↓reduceIte, reduceCtorEq, Int.reduceAdd, Int.reduceSub, Int.reduceMul, Int.reduceNeg, Int.reduceToNat, List.reduceReplicate, String.reduceEq, h0, h5, h7]
            (repeat' apply And.intro) <;> (try first | rfl | assumption | omega)
          · intro i env heap hi
            obtain ⟨rfl, h0, h5, h7, h70, h71, h72, hiA⟩ := (hJ _ _ _).1 hi
            by_cases hlt : i < A.length
            · obtain ⟨q1, q2⟩ := p1 i hlt
              have q3 := p2 i
              obtain ⟨x, hxe⟩ : ∃ x, A[i] = x := ⟨_, rfl⟩
              have hget := flat_el dActn_length A i hlt
              rw [hxe] at hget q1 q2
              have hxo : ((dActn x).all fun x => x.one) = true := rfl
              have hxl : (dActn x).length = 6 := rfl
              have hxt : (dActn x).take 6 = dActn x := rfl
              have hxd : (dActn x).drop 6 = [] := rfl
              have hxc : (DVal.agg (dActn x)).cells = dActn x := rfl
              have g2 : (dActn x)[2]? = some (dI x.frm) := rfl
              have g3 : (dActn x)[3]? = some (dI x.to) := rfl
              have g4 : (dActn x)[4]? = some (.bool x.over) := rfl
              have g5 : (dActn x)[5]? = some (.bool x.opn) := rfl
              simp (disch := omega) only [go_sem, Nat.reduceEqDiff, Nat.reduceAdd, Nat.reduceMul, Nat.reduceSub, Nat.reduceLeDiff, ↓reduceIte, reduceCtorEq, Int.reduceAdd, Int.reduceSub, Int.reduceMul, Int.reduceNeg, Int.reduceToNat, List.reduceReplicate, String.reduceEq, h70, h71, h72, hfa, hget]
              intro ra hra; dsimp only at hra
              simp (disch := omega) only [go_sem, Nat.reduceEqDiff, Nat.reduceAdd, Nat.reduceMul, Nat.reduceSub, Nat.reduceLeDiff, ↓reduceIte, reduceCtorEq, Int.reduceAdd, Int.reduceSub, Int.reduceMul, Int.reduceNeg, Int.reduceToNat, List.reduceReplicate, String.reduceEq, h0, h5, h7, h70, h71, h72, hxl, hxt, hxd, hxo, hxc, g2, g3, g4, g5, hw1, List.append_nil]
              refine dwp_draws (by kernel_rfl) (.take 0 (.take 1 (.take 2 (.take 3 (.take 4 (.take 5 (.take 6 (.take 7 (.take 8 (.take 9 (.take 10 (.take 11 (.take 12 (.take 13 (.take 14 (.take 15 (.take 16 (.take 17 (.take 18 (.take 19 (.take 20 (.take 21 (.take 22 (.take 23 (.take 24 (.take 25 (.take 26 (.take 27 (.take 28 (.take 29 (.take 30 (.take 31 (.take 32 (.take 33 (.take 34 (.take 35 (.take 36 (.take 37 (.take 38 (.take 39 (.take 40 (.take 41 (.take 42 (.take 43 (.take 44 (.take 45 (.take 46 (.take 47 (.take 48 (.take 49 (.take 50 (.take 51 (.take 52 (.take 53 (.take 54 (.take 55 (.take 56 (.take 57 (.take 58 (.take 59 (.go 60 [56, 48, 46, 39, 35, 29, 19, 17, 13, 7, 3, 1] (.take 61 (.take 62 (.take 63 (.take 64 (.take 65 (.take 66 (.take 67 .done)))))))))))))))))))))))))))))))))))))))))))))))))))))))))))))))))))) (by kernel_rfl) ?_
              by_cases hla : i + 1 = A.length
              · cases ho : x.opn with
                | true =>
                  obtain ⟨_, q4, q5⟩ := q2 ho
                  simp (disch := omega) only [go_sem, Nat.reduceEqDiff, Nat.reduceAdd, Nat.reduceMul, Nat.reduceSub, Nat.reduceLeDiff, ↓reduceIte, reduceCtorEq, Int.reduceAdd, Int.reduceSub, Int.reduceMul, Int.reduceNeg, Int.reduceToNat, List.reduceReplicate, String.reduceEq, h0, h5, h7, h70, h71, h72, hxl, hxt, hxd, hxo, hxc, g2, g3, g4, g5, hw1, List.append_nil, ho, q4, q5]
                  refine ⟨i + 1, _, GhostS.drop _ ra, (hJ _ _ _).2 ?_, by omega⟩
                  simp (disch := omega) only [go_sem, Nat.reduceEqDiff, Nat.reduceAdd, Nat.reduceMul, Nat.reduceSub, Nat.reduceLeDiff, ↓reduceIte, reduceCtorEq, Int.reduceAdd, Int.reduceSub, Int.reduceMul, Int.reduceNeg, Int.reduceToNat, List.reduceReplicate, String.reduceEq, h0, h5, h7, h70, h71, h72]
                  (repeat' apply And.intro) <;> (try first | rfl | assumption | omega)
                  exact upd_self hra
                | false =>
                  simp (disch := omega) only [go_sem, Nat.reduceEqDiff, Nat.reduceAdd, Nat.reduceMul, Nat.reduceSub, Nat.reduceLeDiff, ↓reduceIte, reduceCtorEq, Int.reduceAdd, Int.reduceSub, Int.reduceMul, Int.reduceNeg, Int.reduceToNat, List.reduceReplicate, String.reduceEq, h0, h5, h7, h70, h71, h72, hxl, hxt, hxd, hxo, hxc, g2, g3, g4, g5, hw1, List.append_nil, ho]
                  refine ⟨i + 1, _, GhostS.drop _ ra, (hJ _ _ _).2 ?_, by omega⟩
                  simp (disch := omega) only [go_sem, Nat.reduceEqDiff, Nat.reduceAdd, Nat.reduceMul, Nat.reduceSub, Nat.reduceLeDiff, ↓reduceIte, reduceCtorEq, Int.reduceAdd, Int.reduceSub, Int.reduceMul, Int.reduceNeg, Int.reduceToNat, List.reduceReplicate, String.reduceEq, h0, h5, h7, h70, h71, h72]
                  (repeat' apply And.intro) <;> (try first | rfl | assumption | omega)
                  exact upd_self hra
              · have ho : x.opn = false := by
                  cases h : x.opn with
                  | true => exact absurd (q2 h).1 hla
                  | false => rfl
                have hi1 : i + 1 < A.length := by omega
                obtain ⟨q6, q7⟩ := q3 hi1
                have n2 : (A.flatMap dActn)[(i + 1) * 6 + 2]? = some (dI A[i + 1].frm) := flat_get dActn_length A (i + 1) hi1 2 (by omega)
                have n1 : (A.flatMap dActn)[(i + 1) * 6 + 1]? = some (dI A[i + 1].entry) := flat_get dActn_length A (i + 1) hi1 1 (by omega)
                rw [hxe] at q6 q7
                have e1 : ((i : Int) + 1).toNat = i + 1 := by omega
                cases hov : x.over with
                | false =>
                  simp (disch := omega) only [go_sem, Nat.reduceEqDiff, Nat.reduceAdd, Nat.reduceMul, Nat.reduceSub, Nat.reduceLeDiff, ↓reduceIte, reduceCtorEq, Int.reduceAdd, Int.reduceSub, Int.reduceMul, Int.reduceNeg, Int.reduceToNat, List.reduceReplicate, String.reduceEq, h0, h5, h7, h70, h71, h72, hxl, hxt, hxd, hxo, hxc, g2, g3, g4, g5, hw1, List.append_nil, ho, hfa, n2, e1, hov]
                  refine ⟨i + 1, _, GhostS.drop _ ra, (hJ _ _ _).2 ?_, by omega⟩
                  simp (disch := omega) only [go_sem, Nat.reduceEqDiff, Nat.reduceAdd, Nat.reduceMul, Nat.reduceSub, Nat.reduceLeDiff, ↓reduceIte, reduceCtorEq, Int.reduceAdd, Int.reduceSub, Int.reduceMul, Int.reduceNeg, Int.reduceToNat, List.reduceReplicate, String.reduceEq, h0, h5, h7, h70, h71, h72]
                  (repeat' apply And.intro) <;> (try first | rfl | assumption | omega)
                  exact upd_self hra
                | true =>
                  obtain ⟨q8, q9⟩ := q7 hov
                  by_cases hent : A[i + 1].entry < 0
                  · have hbd : bodiesL l = true := q9.resolve_left (by omega)
                    simp (disch := omega) only [go_sem, Nat.reduceEqDiff, Nat.reduceAdd, Nat.reduceMul, Nat.reduceSub, Nat.reduceLeDiff, ↓reduceIte, reduceCtorEq, Int.reduceAdd, Int.reduceSub, Int.reduceMul, Int.reduceNeg, Int.reduceToNat, List.reduceReplicate, String.reduceEq, h0, h5, h7, h70, h71, h72, hxl, hxt, hxd, hxo, hxc, g2, g3, g4, g5, hw1, List.append_nil, ho, hfa, n1, n2, e1, hov, q8]
                    refine (bodies_spec G _ l (by omega)).mono ?_
                    rintro _ H3 ⟨rfl, rfl⟩
                    rw [hbd]
                    simp (disch := omega) only [go_sem, Nat.reduceEqDiff, Nat.reduceAdd, Nat.reduceMul, Nat.reduceSub, Nat.reduceLeDiff, ↓reduceIte, reduceCtorEq, Int.reduceAdd, Int.reduceSub, Int.reduceMul, Int.reduceNeg, Int.reduceToNat, List.reduceReplicate, String.reduceEq, h0, h5, h7, h70, h71, h72, hxl, hxt, hxd, hxo, hxc, g2, g3, g4, g5, hw1, List.append_nil, ho, hfa, n1, n2, e1, hov, q8]
                    refine ⟨i + 1, _, GhostS.drop _ ra, (hJ _ _ _).2 ?_, by omega⟩
                    simp (disch := omega) only [go_sem, Nat.reduceEqDiff, Nat.reduceAdd, Nat.reduceMul, Nat.reduceSub, Nat.reduceLeDiff, ↓reduceIte, reduceCtorEq, Int.reduceAdd, Int.reduceSub, Int.reduceMul, Int.reduceNeg, Int.reduceToNat, List.reduceReplicate, String.reduceEq, h0, h5, h7, h70, h71, h72]
                    (repeat' apply And.intro) <;> (try first | rfl | assumption | omega)
                    exact upd_self hra
                  · simp (disch := omega) only [go_sem, Nat.reduceEqDiff, Nat.reduceAdd, Nat.reduceMul, Nat.reduceSub, Nat.reduceLeDiff, ↓reduceIte, reduceCtorEq, Int.reduceAdd, Int.reduceSub, Int.reduceMul, Int.reduceNeg, Int.reduceToNat, List.reduceReplicate, String.reduceEq, h0, h5, h7, h70, h71, h72, hxl, hxt, hxd, hxo, hxc, g2, g3, g4, g5, hw1, List.append_nil, ho, hfa, n1, n2, e1, hov, q8]
                    refine ⟨i + 1, _, GhostS.drop _ ra, (hJ _ _ _).2 ?_, by omega⟩
                    simp (disch := omega) only [go_sem, Nat.reduceEqDiff, Nat.reduceAdd, Nat.reduceMul, Nat.reduceSub, Nat.reduceLeDiff, ↓reduceIte, reduceCtorEq, Int.reduceAdd, Int.reduceSub, Int.reduceMul, Int.reduceNeg, Int.reduceToNat, List.reduceReplicate, String.reduceEq, h0, h5, h7, h70, h71, h72]
                    (repeat' apply And.intro) <;> (try first | rfl | assumption | omega)
                    exact upd_self hra
            · simp (disch := omega) only [go_sem, Nat.reduceEqDiff, Nat.reduceAdd, Nat.reduceMul, Nat.reduceSub, Nat.reduceLeDiff, ↓reduceIte, reduceCtorEq, Int.reduceAdd, Int.reduceSub, Int.reduceMul, Int.reduceNeg, Int.reduceToNat, List.reduceReplicate, String.reduceEq, h5, h7, h70, h71, h72]
              have hie : i = A.length := by omega
              refine (awake35_spec hG _).mono ?_
              rintro _ H4 ⟨rfl, rfl⟩
              simp (disch := omega) only [go_sem, Nat.reduceEqDiff, Nat.reduceAdd, Nat.reduceMul, Nat.reduceSub, Nat.reduceLeDiff, ↓reduceIte, reduceCtorEq, Int.reduceAdd, Int.reduceSub, Int.reduceMul, Int.reduceNeg, Int.reduceToNat, List.reduceReplicate, String.reduceEq]
              exact DFin.refl ⟨rfl, rfl⟩
    · have hA2 : actionsD l prot = ([], 350) := by
        unfold actionsD at he ⊢
        split
        · rename_i st e; rw [e] at he; exact absurd rfl he
        · rfl
      rw [hA2]
      simp (disch := omega) only [go_sem, Nat.reduceEqDiff, Nat.reduceAdd, Nat.reduceMul, Nat.reduceSub, Nat.reduceLeDiff, ↓reduceIte, reduceCtorEq, Int.reduceAdd, Int.reduceSub, Int.reduceMul, Int.reduceNeg, Int.reduceToNat, List.reduceReplicate, String.reduceEq]
      refine (awake35_spec hG H).mono ?_
      rintro _ H ⟨rfl, rfl⟩
      simp (disch := omega) only [go_sem, Nat.reduceEqDiff, Nat.reduceAdd, Nat.reduceMul, Nat.reduceSub, Nat.reduceLeDiff, ↓reduceIte, reduceCtorEq, Int.reduceAdd, Int.reduceSub, Int.reduceMul, Int.reduceNeg, Int.reduceToNat, List.reduceReplicate, String.reduceEq]
      exact DFin.refl ⟨rfl, rfl⟩
end Go.Dl

-- Chapter 35: TraceUnion.
namespace Go.Dl
open Go Go.Proofs
set_option maxRecDepth 10000

theorem Rising.all {T : Int} {l : List Act} (h : Rising T l) : (∀ x ∈ l, T ≤ x.time) ∧ l.Pairwise (fun x y => x.time ≤ y.time) := by
  induction l generalizing T with
  | nil => exact ⟨fun _ h => (by cases h), .nil⟩
  | cons x l ih =>
    obtain ⟨h1, h2⟩ := h
    obtain ⟨k1, k2⟩ := ih h2
    refine ⟨fun y hy => ?_, List.pairwise_cons.2 ⟨k1, k2⟩⟩
    rcases List.mem_cons.1 hy with rfl | hy
    · exact h1
    · have := k1 y hy; omega
theorem sorted_pair {l : List Act} : sortedA l = true ↔ l.Pairwise (fun x y => x.time ≤ y.time) := by
  constructor
  · intro h
    cases l with
    | nil => exact .nil
    | cons x l => exact (rising_of h x.time (fun y hy => by cases hy; exact Int.le_refl _)).all.2
  · intro h
    rw [sortedA_iff]
    intro i hi
    have := List.pairwise_iff_getElem.1 h i (i + 1) (by omega) hi (by omega)
    simpa [List.getD, List.getElem?_eq_getElem hi, List.getElem?_eq_getElem (show i < l.length by omega)] using this
theorem mayA_of {l : List Act} (h : mayA l = true) (t : Int) : mayA (ofL l t) = true := by
  obtain ⟨h1, h2, h3⟩ := mayA_valid h
  have := ofL_len l t
  have hall : (ofL l t).all validA = true := List.all_eq_true.2 fun x hx => h2 x (List.mem_filter.1 hx).1
  rw [mayA, decide_eq_true (by omega), Bool.true_and, hall, Bool.true_and, sorted_pair]
  exact (sorted_pair.1 h3).filter _
theorem ofL_any (l : List Act) (t : Int) : (ofL l t).any (fun x => !decide (x.task = t)) = false := by
  rw [List.any_eq_false]
  intro x hx
  have := (List.mem_filter.1 hx).2
  simp only [decide_eq_true_eq] at this
  simp [this]
theorem jobsL_of (l : List Act) (t : Int) : jobsL (ofL l t) t = jobsL l t := by
  rw [jobsL, jobsL]; congr 1
  rw [ownJobs, ownJobs, ofL, List.filter_filter]
  congr 1; funext x
  by_cases h : x.task = t <;> simp [h]

/-- The jobs, one behind the other; T: not before it. -/
def JobsOk : Int → List Jb → Prop
  | _, [] => True
  | T, j :: r => T ≤ j.wake ∧ j.wake ≤ j.done ∧ JobsOk j.done r
theorem JobsOk.less {T T' : Int} {l : List Jb} (h : JobsOk T l) (hT : T' ≤ T) : JobsOk T' l := by
  cases l with
  | nil => trivial
  | cons j r => exact ⟨Int.le_trans hT h.1, h.2⟩
theorem jobsR_ok : ∀ (n : Nat) (m : List Act), m.length ≤ n → ∀ x r, m = x :: r → m.Pairwise (fun x y => x.time ≤ y.time) → JobsOk x.time (jobsR m)
  | 0, m, hn, x, r, hm, _ => by subst hm; simp at hn
  | n + 1, m, hn, x, r, hm, hp => by
    subst hm
    match r, hn, hp with
    | [], _, _ => exact trivial
    | [y], _, _ => exact trivial
    | y :: z :: r, hn, hp =>
      obtain ⟨p1, p2⟩ := List.pairwise_cons.1 hp
      obtain ⟨p3, p4⟩ := List.pairwise_cons.1 p2
      have hxy := p1 y (by simp)
      have hyz := p3 z (by simp)
      rw [jobsR_three]
      by_cases c : x.kind = 20 ∧ y.kind = 21 ∧ z.kind ≠ 21
      · rw [if_pos c, jobsR_skip (by omega)]
        exact ⟨hxy, hyz, jobsR_ok n (z :: r) (by simp at hn ⊢; omega) z r rfl p4⟩
      · rw [if_neg c, List.nil_append]
        exact (jobsR_ok n (y :: z :: r) (by simp at hn ⊢; omega) y _ rfl p2).less hxy
theorem jobsL_ok {l : List Act} (h : mayA l = true) (t : Int) : ∃ T, JobsOk T (jobsL l t) := by
  obtain ⟨_, _, h3⟩ := mayA_valid h
  have hp : (ownJobs l t).Pairwise (fun x y => x.time ≤ y.time) := (sorted_pair.1 h3).filter _
  rw [jobsL]
  cases hm : ownJobs l t with
  | nil => exact ⟨0, trivial⟩
  | cons x r => rw [hm] at hp; exact ⟨x.time, jobsR_ok _ _ (Nat.le_refl _) x r rfl hp⟩
theorem JobsOk.at : ∀ {l : List Jb} {T : Int}, JobsOk T l → ∀ (i : Nat) (h : i < l.length), l[i].wake ≤ l[i].done ∧ ∀ h' : i + 1 < l.length, l[i].done ≤ l[i + 1].wake
  | [], _, _, i, h => by simp at h
  | j :: r, _, hj, 0, h => by
    refine ⟨hj.2.1, fun h' => ?_⟩
    cases r with
    | nil => simp at h'
    | cons k r => exact hj.2.2.1
  | j :: r, _, hj, i + 1, h => by
    obtain ⟨k1, k2⟩ := JobsOk.at hj.2.2 i (by simpa using h)
    exact ⟨k1, fun h' => k2 (by simpa using h')⟩

def tskB (k : Int) (x : Act) : Bool := decide (0 ≤ x.task) && decide (x.task < k)
theorem cnt_next (l : List Act) (k : Nat) (p : Act → Bool) : l.countP (fun x => tskB ((k : Int) + 1) x && p x) = l.countP (fun x => tskB k x && p x) + l.countP (fun x => decide (x.task = (k : Int)) && p x) := by
  induction l with
  | nil => rfl
  | cons x l ih =>
    simp only [List.countP_cons, ih]
    have : (if (tskB ((k : Int) + 1) x && p x) = true then 1 else 0) = (if (tskB k x && p x) = true then 1 else 0) + (if (decide (x.task = (k : Int)) && p x) = true then 1 else 0) := by
      cases hp : p x
      · simp
      · simp only [Bool.and_true, tskB, Bool.and_eq_true, decide_eq_true_eq]
        by_cases a : 0 ≤ x.task ∧ x.task < (k : Int)
        · rw [if_pos a, if_pos (by omega), if_neg (by omega)]
        · by_cases b : x.task = k
          · rw [if_neg a, if_pos (by omega), if_pos b]
          · rw [if_neg a, if_neg (by omega), if_neg b]
    rw [this]; omega
theorem ofL_cnt (l : List Act) (k : Int) : (ofL l k).length = l.countP (fun x => decide (x.task = k) && true) := by
  rw [ofL, List.countP_eq_length_filter]; simp
theorem puts_cnt (l : List Act) (k : Int) : (putsL (ofL l k)).length = l.countP (fun x => decide (x.task = k) && decide (x.kind = 1)) := by
  rw [putsL, List.length_map, ofL, List.filter_filter, List.countP_eq_length_filter]
  congr 1; congr 1; funext x; rw [Bool.and_comm]
theorem all_cnt {l : List Act} (h : ∀ x ∈ l, validA x = true) (p : Act → Bool) : l.countP (fun x => tskB 32 x && p x) = l.countP p := by
  refine List.countP_congr fun x hx => ?_
  have := h x hx
  simp only [validA, actOk, Bool.and_eq_true, decide_eq_true_eq] at this
  have ht : tskB 32 x = true := by simp [tskB]; omega
  rw [ht]; simp

def cntT (l : List Act) (k : Int) : Nat := l.countP fun x => tskB k x && true
def cntP (l : List Act) (k : Int) : Nat := l.countP fun x => tskB k x && decide (x.kind = 1)
theorem cnt_zero (l : List Act) (p : Act → Bool) : l.countP (fun x => tskB 0 x && p x) = 0 := by
  rw [List.countP_eq_zero]
  intro x _ h
  simp only [tskB, Bool.and_eq_true, decide_eq_true_eq] at h
  omega
theorem cntT_next (l : List Act) (k : Nat) : cntT l ((k : Int) + 1) = cntT l k + (ofL l k).length := by rw [ofL_cnt]; exact cnt_next l k _
theorem cntP_next (l : List Act) (k : Nat) : cntP l ((k : Int) + 1) = cntP l k + (putsL (ofL l k)).length := by rw [puts_cnt]; exact cnt_next l k _
theorem cntT_all {l : List Act} (h : ∀ x ∈ l, validA x = true) : cntT l 32 = l.length := by
  rw [cntT, all_cnt h (fun _ => true)]; simp
theorem cntP_all {l : List Act} (h : ∀ x ∈ l, validA x = true) : cntP l 32 = (putsL l).length := by
  rw [cntP, all_cnt h (fun x => decide (x.kind = 1)), putsL, List.length_map, List.countP_eq_length_filter]

theorem union1_spec (G : Nat → DVal) (H : DHeap) (x : Act) (t : Int) (r : Nat) (e : TypeId) (hr : H r = some (.cells [dI t] e)) :
    DCalls Tryd.prog G 32 ([] ++ [.agg (dAct x)] ++ [.optr r 0]) H (DRet (.bool (!decide (x.task = t))) H) := by
  refine dcalls_intro Tryd.func32 Tryd.call32 rfl (by kernel_rfl) ?_
  simp (disch := omega) only [go_sem, Nat.reduceEqDiff, Nat.reduceAdd, Nat.reduceMul, Nat.reduceSub, Nat.reduceLeDiff, ↓reduceIte, reduceCtorEq, Int.reduceAdd, Int.reduceSub, Int.reduceMul, Int.reduceNeg, Int.reduceToNat, List.reduceReplicate, String.reduceEq, dAct, DVal.cells, List.nil_append, List.cons_append]
  intro r2 hr2; dsimp only at hr2
  have e1 : ¬ r = r2 := fun e => by subst e; rw [hr] at hr2; cases hr2
  simp (disch := omega) only [go_sem, Nat.reduceEqDiff, Nat.reduceAdd, Nat.reduceMul, Nat.reduceSub, Nat.reduceLeDiff, ↓reduceIte, reduceCtorEq, Int.reduceAdd, Int.reduceSub, Int.reduceMul, Int.reduceNeg, Int.reduceToNat, List.reduceReplicate, String.reduceEq, e1, hr]
  exact DFin.dropA r2 hr2 (DFin.refl ⟨rfl, rfl⟩)

theorem traceUnion_spec {G : Nat → DVal} (hG : GAll G) (H : DHeap) (l : List Act) (hl : l.length ≤ 1048576) (hx : ActsW l) : DCalls Tryd.prog G 7 [dActs l] H (DRet (.bool true) H) := by
  refine dcalls_intro Tryd.func7 Tryd.call7 rfl (by kernel_rfl) ?_
  by_cases c : 3000 < l.length
  · simp (disch := omega) only [go_sem, Nat.reduceEqDiff, Nat.reduceAdd, Nat.reduceMul, Nat.reduceSub, Nat.reduceLeDiff, ↓reduceIte, reduceCtorEq, Int.reduceAdd, Int.reduceSub, Int.reduceMul, Int.reduceNeg, Int.reduceToNat, List.reduceReplicate, String.reduceEq, dActs]
    refine (awake35_spec hG H).mono ?_
    rintro _ H ⟨rfl, rfl⟩
    simp (disch := omega) only [go_sem, Nat.reduceEqDiff, Nat.reduceAdd, Nat.reduceMul, Nat.reduceSub, Nat.reduceLeDiff, ↓reduceIte, reduceCtorEq, Int.reduceAdd, Int.reduceSub, Int.reduceMul, Int.reduceNeg, Int.reduceToNat, List.reduceReplicate, String.reduceEq]
    exact DFin.refl ⟨rfl, rfl⟩
  simp (disch := omega) only [go_sem, Nat.reduceEqDiff, Nat.reduceAdd, Nat.reduceMul, Nat.reduceSub, Nat.reduceLeDiff, ↓reduceIte, reduceCtorEq, Int.reduceAdd, Int.reduceSub, Int.reduceMul, Int.reduceNeg, Int.reduceToNat, List.reduceReplicate, String.reduceEq, dActs]
  rw [← dActs]
  refine (rmay_spec G H l (by omega) hx).mono ?_
  rintro _ H ⟨rfl, rfl⟩
  cases hm : mayA l with
  | false =>
    simp (disch := omega) only [go_sem, Nat.reduceEqDiff, Nat.reduceAdd, Nat.reduceMul, Nat.reduceSub, Nat.reduceLeDiff, ↓reduceIte, reduceCtorEq, Int.reduceAdd, Int.reduceSub, Int.reduceMul, Int.reduceNeg, Int.reduceToNat, List.reduceReplicate, String.reduceEq]
    refine (awake35_spec hG H).mono ?_
    rintro _ H ⟨rfl, rfl⟩
    simp (disch := omega) only [go_sem, Nat.reduceEqDiff, Nat.reduceAdd, Nat.reduceMul, Nat.reduceSub, Nat.reduceLeDiff, ↓reduceIte, reduceCtorEq, Int.reduceAdd, Int.reduceSub, Int.reduceMul, Int.reduceNeg, Int.reduceToNat, List.reduceReplicate, String.reduceEq]
    exact DFin.refl ⟨rfl, rfl⟩
  | true =>
    obtain ⟨m1, m2, m3⟩ := mayA_valid hm
    simp (disch := omega) only [go_sem, Nat.reduceEqDiff, Nat.reduceAdd, Nat.reduceMul, Nat.reduceSub, Nat.reduceLeDiff, ↓reduceIte, reduceCtorEq, Int.reduceAdd, Int.reduceSub, Int.reduceMul, Int.reduceNeg, Int.reduceToNat, List.reduceReplicate, String.reduceEq]
    obtain ⟨I, hI⟩ : ∃ I : Nat → (Nat → DVal) → DHeap → Prop, ∀ k env heap, I k env heap ↔ (heap = H ∧ env 0 = dActs l ∧ env 3 = dI (cntT l k) ∧ env 4 = dI (cntP l k) ∧ env 19 = dI k ∧ k ≤ 32) := ⟨_, fun _ _ _ => Iff.rfl⟩
    refine DLoop.runG I (fun k => 32 - k) 0 _ (GhostS.refl _) ((hI _ _ _).2 ?_) ?_
    · simp (disch := omega) only [go_sem, Nat.reduceEqDiff, Nat.reduceAdd, Nat.reduceMul, Nat.reduceSub, Nat.reduceLeDiff, ↓reduceIte, reduceCtorEq, Int.reduceAdd, Int.reduceSub, Int.reduceMul, Int.reduceNeg, Int.reduceToNat, List.reduceReplicate, String.reduceEq]
      (repeat' apply And.intro) <;> (try first | rfl | assumption | omega)
      · rw [show cntT l ((0 : Nat) : Int) = 0 from cnt_zero l _]; rfl
      · rw [show cntP l ((0 : Nat) : Int) = 0 from cnt_zero l _]; rfl
    · intro k env heap hi
      obtain ⟨rfl, h0, h3, h4, h19, hk⟩ := (hI _ _ _).1 hi
      by_cases hlt : k < 32
      · have n1 := cntT_next l k
        have n2 := cntP_next l k
        have o1 := ofL_len l k
        have o2 := putsL_len (ofL l k)
        have o3 : cntT l k ≤ l.length := List.countP_le_length
        have o4 : cntP l k ≤ l.length := List.countP_le_length
        have o5 := jobsL_len l k
        simp (disch := omega) only [go_sem, Nat.reduceEqDiff, Nat.reduceAdd, Nat.reduceMul, Nat.reduceSub, Nat.reduceLeDiff, ↓reduceIte, reduceCtorEq, Int.reduceAdd, Int.reduceSub, Int.reduceMul, Int.reduceNeg, Int.reduceToNat, List.reduceReplicate, String.reduceEq, h0, h3, h4, h19]
        intro rt hrt; dsimp only at hrt
        simp (disch := omega) only [go_sem, Nat.reduceEqDiff, Nat.reduceAdd, Nat.reduceMul, Nat.reduceSub, Nat.reduceLeDiff, ↓reduceIte, reduceCtorEq, Int.reduceAdd, Int.reduceSub, Int.reduceMul, Int.reduceNeg, Int.reduceToNat, List.reduceReplicate, String.reduceEq, h0, h3, h4, h19]
        refine (of_spec G _ l k (by omega)).mono ?_
        rintro _ H1 ⟨rfl, rfl⟩
        simp (disch := omega) only [go_sem, Nat.reduceEqDiff, Nat.reduceAdd, Nat.reduceMul, Nat.reduceSub, Nat.reduceLeDiff, ↓reduceIte, reduceCtorEq, Int.reduceAdd, Int.reduceSub, Int.reduceMul, Int.reduceNeg, Int.reduceToNat, List.reduceReplicate, String.reduceEq, h0, h3, h4, h19, dActs]
        rw [← dActs]
        refine (puts_spec G _ (ofL l k) (by omega)).mono ?_
        rintro _ H1 ⟨rfl, rfl⟩
        simp (disch := omega) only [go_sem, Nat.reduceEqDiff, Nat.reduceAdd, Nat.reduceMul, Nat.reduceSub, Nat.reduceLeDiff, ↓reduceIte, reduceCtorEq, Int.reduceAdd, Int.reduceSub, Int.reduceMul, Int.reduceNeg, Int.reduceToNat, List.reduceReplicate, String.reduceEq, h0, h3, h4, h19, dI64s]
        refine (jobs_spec G _ l k (by omega)).mono ?_
        rintro _ H1 ⟨rfl, rfl⟩
        simp (disch := omega) only [go_sem, Nat.reduceEqDiff, Nat.reduceAdd, Nat.reduceMul, Nat.reduceSub, Nat.reduceLeDiff, ↓reduceIte, reduceCtorEq, Int.reduceAdd, Int.reduceSub, Int.reduceMul, Int.reduceNeg, Int.reduceToNat, List.reduceReplicate, String.reduceEq, h0, h3, h4, h19]
        refine (containsAct_spec G _ (fun x => !decide (x.task = k)) (ofL l k) 32 [] [.optr rt 0] (by omega) (fun x _ => union1_spec G _ x k rt _ (upd_same _ _ _))).mono ?_
        rintro _ H1 ⟨rfl, rfl⟩
        rw [ofL_any]
        simp (disch := omega) only [go_sem, Nat.reduceEqDiff, Nat.reduceAdd, Nat.reduceMul, Nat.reduceSub, Nat.reduceLeDiff, ↓reduceIte, reduceCtorEq, Int.reduceAdd, Int.reduceSub, Int.reduceMul, Int.reduceNeg, Int.reduceToNat, List.reduceReplicate, String.reduceEq, h0, h3, h4, h19]
        refine (rmay_spec G _ (ofL l k) (by omega) (fun x h => hx x (List.mem_filter.1 h).1)).mono ?_
        rintro _ H1 ⟨rfl, rfl⟩
        rw [mayA_of hm]
        simp (disch := omega) only [go_sem, Nat.reduceEqDiff, Nat.reduceAdd, Nat.reduceMul, Nat.reduceSub, Nat.reduceLeDiff, ↓reduceIte, reduceCtorEq, Int.reduceAdd, Int.reduceSub, Int.reduceMul, Int.reduceNeg, Int.reduceToNat, List.reduceReplicate, String.reduceEq, h0, h3, h4, h19]
        refine (jobs_spec G _ (ofL l k) k (by omega)).mono ?_
        rintro _ H1 ⟨rfl, rfl⟩
        rw [jobsL_of]
        simp (disch := omega) only [go_sem, Nat.reduceEqDiff, Nat.reduceAdd, Nat.reduceMul, Nat.reduceSub, Nat.reduceLeDiff, ↓reduceIte, reduceCtorEq, Int.reduceAdd, Int.reduceSub, Int.reduceMul, Int.reduceNeg, Int.reduceToNat, List.reduceReplicate, String.reduceEq, h0, h3, h4, h19]
        refine (equal_jb G _ (jobsL l k) (jobsL l k) (by omega) (by omega)).mono ?_
        rintro _ H1 ⟨rfl, rfl⟩
        obtain ⟨T, hjo⟩ := jobsL_ok hm k
        obtain ⟨js, hjs⟩ : ∃ js, jobsL l k = js := ⟨_, rfl⟩
        rw [hjs] at hjo o5 ⊢
        simp (disch := omega) only [go_sem, Nat.reduceEqDiff, Nat.reduceAdd, Nat.reduceMul, Nat.reduceSub, Nat.reduceLeDiff, ↓reduceIte, reduceCtorEq, Int.reduceAdd, Int.reduceSub, Int.reduceMul, Int.reduceNeg, Int.reduceToNat, List.reduceReplicate, String.reduceEq, h0, h3, h4, h19, dJbs]
        have hfj := flat_len dJb_length js
        obtain ⟨H1, rfl⟩ : ∃ H1, H1 = heap := ⟨_, rfl⟩
        obtain ⟨J, hJ⟩ : ∃ J : Nat → (Nat → DVal) → DHeap → Prop, ∀ i env heap, J i env heap ↔ (env 0 = dActs l ∧ env 3 = dI (cntT l ((k : Int) + 1)) ∧ env 4 = dI (cntP l ((k : Int) + 1)) ∧ env 19 = dI k ∧ env 7 = dJbs js ∧ env 53 = dJbs js ∧ env 54 = dI js.length ∧ env 55 = dI i ∧ i ≤ js.length ∧ Sub H1 heap) := ⟨_, fun _ _ _ => Iff.rfl⟩
        refine DLoop.run J (fun i => js.length - i) 0 ((hJ _ _ _).2 ?_) ?_
        · simp (disch := omega) only [go_sem, Nat.reduceEqDiff, Nat.reduceAdd, Nat.reduceMul, Nat.reduceSub, Nat.reduceLeDiff, ↓reduceIte, reduceCtorEq, Int.reduceAdd, Int.reduceSub, Int.reduceMul, Int.reduceNeg, Int.reduceToNat, List.reduceReplicate, String.reduceEq, h0, h3, h4, h19, dJbs, n1, n2]
          (repeat' apply And.intro) <;> (try first | rfl | assumption | omega)
          exact (Sub.refl H1).up hrt _
        · intro i env heap hj
          obtain ⟨h0, h3, h4, h19, h7, h53, h54, h55, hil, hsub⟩ := (hJ _ _ _).1 hj
          by_cases hlj : i < js.length
          · obtain ⟨w1, w2⟩ := hjo.at i hlj
            obtain ⟨y, hy⟩ : ∃ y, js[i] = y := ⟨_, rfl⟩
            have hget := flat_el dJb_length js i hlj
            rw [hy] at hget w1 w2
            have hyo : ((dJb y).all fun x => x.one) = true := rfl
            have hyl : (dJb y).length = 3 := rfl
            have hyt : (dJb y).take 3 = dJb y := rfl
            have hyd : (dJb y).drop 3 = [] := rfl
            have hyc : (DVal.agg (dJb y)).cells = dJb y := rfl
            have y1 : (dJb y)[1]? = some (dI y.wake) := rfl
            have y2 : (dJb y)[2]? = some (dI y.done) := rfl
            simp (disch := omega) only [go_sem, Nat.reduceEqDiff, Nat.reduceAdd, Nat.reduceMul, Nat.reduceSub, Nat.reduceLeDiff, ↓reduceIte, reduceCtorEq, Int.reduceAdd, Int.reduceSub, Int.reduceMul, Int.reduceNeg, Int.reduceToNat, List.reduceReplicate, String.reduceEq, h53, h54, h55, dJbs, hfj, hget]
            intro ra hra; dsimp only at hra
            simp (disch := omega) only [go_sem, Nat.reduceEqDiff, Nat.reduceAdd, Nat.reduceMul, Nat.reduceSub, Nat.reduceLeDiff, ↓reduceIte, reduceCtorEq, Int.reduceAdd, Int.reduceSub, Int.reduceMul, Int.reduceNeg, Int.reduceToNat, List.reduceReplicate, String.reduceEq, h0, h3, h4, h19, h7, h53, h54, h55, dJbs, hyo, hyl, hyt, hyd, hyc, y1, y2, List.append_nil]
            refine dwp_draws (by kernel_rfl) (.take 0 (.take 1 (.take 2 (.take 3 (.take 4 (.take 5 (.take 6 (.take 7 (.take 8 (.take 9 (.take 10 (.take 11 (.take 12 (.take 13 (.take 14 (.take 15 (.take 16 (.take 17 (.take 18 (.take 19 .done)))))))))))))))))))) (by kernel_rfl) ?_
            by_cases hi0 : i = 0
            · subst hi0
              have h55' : env 55 = dI 0 := h55
              simp (disch := omega) only [go_sem, Nat.reduceEqDiff, Nat.reduceAdd, Nat.reduceMul, Nat.reduceSub, Nat.reduceLeDiff, ↓reduceIte, reduceCtorEq, Int.reduceAdd, Int.reduceSub, Int.reduceMul, Int.reduceNeg, Int.reduceToNat, List.reduceReplicate, String.reduceEq, h0, h3, h4, h19, h7, h53, h54, h55', dJbs, hyo, hyl, hyt, hyd, hyc, y1, y2, List.append_nil]
              refine ⟨1, _, GhostS.refl _, (hJ _ _ _).2 ?_, by omega⟩
              simp (disch := omega) only [go_sem, Nat.reduceEqDiff, Nat.reduceAdd, Nat.reduceMul, Nat.reduceSub, Nat.reduceLeDiff, ↓reduceIte, reduceCtorEq, Int.reduceAdd, Int.reduceSub, Int.reduceMul, Int.reduceNeg, Int.reduceToNat, List.reduceReplicate, String.reduceEq, h0, h3, h4, h19, h7, h53, h54, h55, dJbs]
              (repeat' apply And.intro) <;> (try first | rfl | assumption | omega)
              exact hsub.new hra _
            · obtain ⟨i', rfl⟩ : ∃ i', i = i' + 1 := ⟨i - 1, by omega⟩
              have hp := (hjo.at i' (by omega)).2 hlj
              rw [hy] at hp
              have y3 : (js.flatMap dJb)[i' * 3 + 2]? = some (dI js[i'].done) := flat_get dJb_length js i' (by omega) 2 (by omega)
              have hw : IntKind.i64.wrap (((i' + 1 : Nat) : Int) - 1) = (i' : Int) := by rw [IntKind.wrap_i64]; omega
              simp (disch := omega) only [go_sem, Nat.reduceEqDiff, Nat.reduceAdd, Nat.reduceMul, Nat.reduceSub, Nat.reduceLeDiff, ↓reduceIte, reduceCtorEq, Int.reduceAdd, Int.reduceSub, Int.reduceMul, Int.reduceNeg, Int.reduceToNat, List.reduceReplicate, String.reduceEq, h0, h3, h4, h19, h7, h53, h54, h55, dJbs, hyo, hyl, hyt, hyd, hyc, y1, y2, y3, hw, hfj, List.append_nil]
              refine ⟨i' + 2, _, GhostS.refl _, (hJ _ _ _).2 ?_, by omega⟩
              simp (disch := omega) only [go_sem, Nat.reduceEqDiff, Nat.reduceAdd, Nat.reduceMul, Nat.reduceSub, Nat.reduceLeDiff, ↓reduceIte, reduceCtorEq, Int.reduceAdd, Int.reduceSub, Int.reduceMul, Int.reduceNeg, Int.reduceToNat, List.reduceReplicate, String.reduceEq, h0, h3, h4, h19, h7, h53, h54, h55, dJbs]
              (repeat' apply And.intro) <;> (try first | rfl | assumption | omega)
              exact hsub.new hra _
          · simp (disch := omega) only [go_sem, Nat.reduceEqDiff, Nat.reduceAdd, Nat.reduceMul, Nat.reduceSub, Nat.reduceLeDiff, ↓reduceIte, reduceCtorEq, Int.reduceAdd, Int.reduceSub, Int.reduceMul, Int.reduceNeg, Int.reduceToNat, List.reduceReplicate, String.reduceEq, h19, h53, h54, h55, dJbs]
            refine ⟨k + 1, _, GhostS.sub (H' := H1) hsub, (hI _ _ _).2 ?_, by omega⟩
            simp (disch := omega) only [go_sem, Nat.reduceEqDiff, Nat.reduceAdd, Nat.reduceMul, Nat.reduceSub, Nat.reduceLeDiff, ↓reduceIte, reduceCtorEq, Int.reduceAdd, Int.reduceSub, Int.reduceMul, Int.reduceNeg, Int.reduceToNat, List.reduceReplicate, String.reduceEq, h0, h3, h4, h19]
            (repeat' apply And.intro) <;> (try first | rfl | assumption | omega)
      · have hk32 : k = 32 := by omega
        subst hk32
        have a1 := cntT_all m2
        have a2 := cntP_all m2
        have h3' : env 3 = dI l.length := by rw [h3, ← a1]; rfl
        have h4' : env 4 = dI (putsL l).length := by rw [h4, ← a2]; rfl
        have h19' : env 19 = dI 32 := h19
        simp (disch := omega) only [go_sem, Nat.reduceEqDiff, Nat.reduceAdd, Nat.reduceMul, Nat.reduceSub, Nat.reduceLeDiff, ↓reduceIte, reduceCtorEq, Int.reduceAdd, Int.reduceSub, Int.reduceMul, Int.reduceNeg, Int.reduceToNat, List.reduceReplicate, String.reduceEq, h0, h3', h4', h19', dActs]
        rw [← dActs]
        refine (puts_spec G _ l (by omega)).mono ?_
        rintro _ H1 ⟨rfl, rfl⟩
        simp (disch := omega) only [go_sem, Nat.reduceEqDiff, Nat.reduceAdd, Nat.reduceMul, Nat.reduceSub, Nat.reduceLeDiff, ↓reduceIte, reduceCtorEq, Int.reduceAdd, Int.reduceSub, Int.reduceMul, Int.reduceNeg, Int.reduceToNat, List.reduceReplicate, String.reduceEq, h0, h3', h4', h19', dI64s]
        refine (awake35_spec hG _).mono ?_
        rintro _ H1 ⟨rfl, rfl⟩
        simp (disch := omega) only [go_sem, Nat.reduceEqDiff, Nat.reduceAdd, Nat.reduceMul, Nat.reduceSub, Nat.reduceLeDiff, ↓reduceIte, reduceCtorEq, Int.reduceAdd, Int.reduceSub, Int.reduceMul, Int.reduceNeg, Int.reduceToNat, List.reduceReplicate, String.reduceEq]
        exact DFin.refl ⟨rfl, rfl⟩
end Go.Dl

-- Chapter 35: the reading of the package's variables and of acts.
namespace Go.Dl
open Go Go.RowKit Go.Proofs Go.Proofs.YtocmbkaaioomdaaDoor
set_option maxRecDepth 100000

theorem laidOut : laidOutB Tryd.prog = true := by kernel_rfl
theorem gall_of {laid : List (String × DataW Unit)} {W : World} (hL : laidMetH Tryd.prog laid W) (hs : W.ShapedOpen Tryd.prog) (hh : (laid.filter fun x => x.2.handleName?.isSome) = [])
    (m1 : ("ceiling/trace.kinds", Rows.laid_ceiling_trace_kinds) ∈ laid) (m2 : ("internal/strconv.uint64pow10", Rows.laid_internal_strconv_uint64pow10) ∈ laid)
    (m3 : ("strconv.ErrSyntax", Rows.laid_strconv_ErrSyntax) ∈ laid) (m4 : ("strconv.ErrRange", Rows.laid_strconv_ErrRange) ∈ laid) : ∃ G, GAll G ∧ GOk G W (fun _ => none) := by
  have hL' : laidMet Tryd.prog laid W := by
    unfold laidMetH at hL
    rw [hh] at hL
    exact hL
  have r1 := laid_rel laidOut hL' m1 (by kernel_rfl) (show Tryd.prog.globalNamed "ceiling/trace.kinds" = some 0 by kernel_rfl) (by kernel_rfl)
  have r2 := laid_rel laidOut hL' m2 (by kernel_rfl) (show Tryd.prog.globalNamed "internal/strconv.uint64pow10" = some 4 by kernel_rfl) (by kernel_rfl)
  obtain ⟨t3, a3, r3⟩ := laid_err hL' m3 (show Tryd.prog.globalNamed "strconv.ErrSyntax" = some 5 by kernel_rfl)
  obtain ⟨t4, a4, r4⟩ := laid_err hL' m4 (show Tryd.prog.globalNamed "strconv.ErrRange" = some 6 by kernel_rfl)
  obtain ⟨m, hm⟩ : ∃ m, W.cell? ⟨1, 0, none⟩ = some (.int .i64 m) := cell_of_shapedOpen_int (t := 3) (zero := #[.int .i64 0]) hs (of_decide_eq_true (by kernel_rfl)) (by kernel_rfl) rfl (by kernel_rfl) (by kernel_rfl) Tryd.underlying3
  have e1 : ofVals (litCells Rows.laid_ceiling_trace_kinds) = dKinds := by kernel_rfl
  have e2 : ofVals (litCells Rows.laid_internal_strconv_uint64pow10) = dPow := by kernel_rfl
  rw [e1] at r1
  rw [e2] at r2
  refine ⟨fun g => if g = 0 then .vptr dKinds 0 else if g = 4 then .vptr dPow 0 else if g = 5 then .vptr [.iface t3 (.raw (.pointer (some a3)))] 0 else if g = 6 then .vptr [.iface t4 (.raw (.pointer (some a4)))] 0 else if g = 1 then .vptr [.int .i64 m] 0 else .optr g 0,
    ⟨⟨⟨m, rfl⟩, ⟨_, _, rfl⟩, ⟨_, _, rfl⟩⟩, rfl, rfl⟩, fun g => ?_⟩
  dsimp only
  split
  · rename_i e; subst e; exact r1
  split
  · rename_i e; subst e; exact r2
  split
  · rename_i e; subst e; exact r3
  split
  · rename_i e; subst e; exact r4
  split
  · rename_i e; subst e
    simp only [Rel, RelL]
    refine ⟨1, 0, [.int .i64 m], rfl, .inr ⟨rfl, fun i x hx => ?_⟩, _, _, rfl, rfl, rfl⟩
    cases i with
    | zero => simp at hx; subst hx; exact hm
    | succ i => simp at hx
  · simp [Rel]

section
variable {H : Type} {w : World}
theorem reads_act : Reads Tryd.prog H w 37 Act dAct (fun x d => ActW x) := by
  have h := reads_struct (H := H) (w := w) Tryd.underlying37 (readsFs_cons (n := 1) (reads_int Tryd.underlying2) rfl (by kernel_rfl) (readsFs_cons (n := 1) (reads_int Tryd.underlying3) rfl (by kernel_rfl) (readsFs_cons (n := 1) (reads_int Tryd.underlying35) rfl (by kernel_rfl)
    (readsFs_cons (n := 1) (reads_int Tryd.underlying2) rfl (by kernel_rfl) (readsFs_cons (n := 1) (reads_int Tryd.underlying2) rfl (by kernel_rfl) (readsFs_cons (n := 1) (reads_int Tryd.underlying2) rfl (by kernel_rfl) (by
      rw [show Tryd.prog.cellsOf 37 = 0 + 1 + 1 + 1 + 1 + 1 + 1 by kernel_rfl]
      exact readsFs_nil _)))))))
  refine h.map fun x d hg => ⟨⟨x.1, x.2.1, x.2.2.1, x.2.2.2.1, x.2.2.2.2.1, x.2.2.2.2.2.1⟩, rfl, ?_⟩
  obtain ⟨ds, rfl, d0, ds0, rfl, g0, d1, ds1, rfl, g1, d2, ds2, rfl, g2, d3, ds3, rfl, g3, d4, ds4, rfl, g4, d5, ds5, rfl, g5, rfl⟩ := hg
  have i64 : ∀ n : Int, (Lit.int .i64 n).wf = true → I64 n := fun n h => by
    have := wf_int h
    exact this
  have u8 := wf_int g2.1
  have a : (0 : Int) ≤ x.2.2.1 := u8.1
  have b : x.2.2.1 ≤ 255 := u8.2
  exact ⟨a, by show x.2.2.1 < 256; omega, i64 _ g0.1, i64 _ g1.1, i64 _ g3.1, i64 _ g4.1, i64 _ g5.1⟩
theorem reads_acts : Reads Tryd.prog H w 22 (List Act) (fun l => [dActs l]) (SlG fun x d => ActW x) := reads_slice Tryd.underlying22 reads_act
theorem allG_all {α : Type} {g : α → DataW H → Prop} {p : α → Prop} (hp : ∀ x d, g x d → p x) : ∀ {xs : List α} {ds : List (DataW H)}, AllG g xs ds → ∀ x ∈ xs, p x
  | [], _, _, x, hx => by cases hx
  | _ :: _, [], h, _, _ => h.elim
  | y :: xs, d :: ds, h, x, hx => by
    rcases List.mem_cons.1 hx with rfl | hx
    · exact hp _ _ h.1
    · exact allG_all hp h.2 x hx
theorem slG_all {α : Type} {g : α → DataW H → Prop} {p : α → Prop} (hp : ∀ x d, g x d → p x) {xs : List α} {d : DataW H} (h : SlG g xs d) : ∀ x ∈ xs, p x := by
  rcases h with ⟨rfl, rfl⟩ | ⟨es, sp, rfl, _, h⟩
  · intro x hx; cases hx
  · exact allG_all hp h
end
end Go.Dl

-- Chapter 35: a world in which the package's variables hold what their text lays.
namespace Go.Dl
open Go Go.RowKit Go.Proofs Go.Proofs.YtocmbkaaioomdaaDoor
noncomputable def world35 (os : Os) : World :=
  let N := (World.settled Tryd.prog os).heap.size
  let w0 := World.holding Tryd.prog os ⟨#[.cells #[.string ⟨#[105, 110, 118, 97, 108, 105, 100, 32, 115, 121, 110, 116, 97, 120]⟩] 161, .cells #[.string ⟨#[118, 97, 108, 117, 101, 32, 111, 117, 116, 32, 111, 102, 32, 114, 97, 110, 103, 101]⟩] 161], #[], []⟩
  let put (h : Array Obj) (g : Nat) (cs : Array Value) : Array Obj := h.modify g fun
    | .cells _ t frozen => .cells cs t frozen
    | o => o
  let h0 := put w0.heap 0 (litCells Rows.laid_ceiling_trace_kinds).toArray
  let h1 := put h0 2 (litCells Rows.laid_unicode_utf8_first).toArray
  let h2 := put h1 3 (litCells Rows.laid_unicode_utf8_acceptRanges).toArray
  let h3 := put h2 4 (litCells Rows.laid_internal_strconv_uint64pow10).toArray
  let h4 := put h3 5 #[.iface 159 (.pointer (some ⟨N, 0, none⟩))]
  let h5 := put h4 6 #[.iface 159 (.pointer (some ⟨N + 1, 0, none⟩))]
  let h6 := put h5 7 (litCells Rows.laid_math_bits_deBruijn32tab).toArray
  let h7 := put h6 8 (litCells Rows.laid_math_bits_deBruijn64tab).toArray
  { w0 with heap := h7 }
end Go.Dl

-- The library functions of this seat, by the shelf (printed by shelfpick.py out of what the shelf's tools wrote at the seat).
namespace Go.Proofs
open Go.Shelf
def Tryd.lays156_ren : Go.Shelf.Ren := ⟨fun | 156 => 35 | 165 => 54 | 166 => 55 | 169 => 56 | 240 => 72 | 241 => 73 | 276 => 84 | 277 => 85 | n => n, fun | 31 => 61 | 9 => 9 | 3 => 3 | 4 => 4 | 0 => 0 | 20 => 20 | 72 => 80 | 76 => 84 | 70 => 78 | 37 => 64 | 75 => 83 | 127 => 112 | 164 => 122 | 5 => 5 | 80 => 86 | n => n, fun | n => n⟩
theorem Tryd.lays156 : Go.Proofs.Lays.n156 Tryd.prog Tryd.lays156_ren := {
  mixed := by kernel_rfl
  f156 := Tryd.func35.trans (congrArg some (by kernel_rfl))
  f165 := Tryd.func54.trans (congrArg some (by kernel_rfl))
  f166 := Tryd.func55.trans (congrArg some (by kernel_rfl))
  f169 := Tryd.func56.trans (congrArg some (by kernel_rfl))
  f240 := Tryd.func72.trans (congrArg some (by kernel_rfl))
  f241 := Tryd.func73.trans (congrArg some (by kernel_rfl))
  f276 := Tryd.func84.trans (congrArg some (by kernel_rfl))
  f277 := Tryd.func85.trans (congrArg some (by kernel_rfl))
  t0 := Tryd.underlying0
  a0 := Tryd.isAgg0
  z0 := Tryd.sizeOf0
  v0 := Tryd.zeroValue0
  t3 := Tryd.underlying3
  a3 := Tryd.isAgg3
  z3 := Tryd.sizeOf3
  v3 := Tryd.zeroValue3
  t4 := Tryd.underlying4
  a4 := Tryd.isAgg4
  z4 := Tryd.sizeOf4
  v4 := Tryd.zeroValue4
  t9 := Tryd.underlying9
  a9 := Tryd.isAgg9
  z9 := Tryd.sizeOf9
  v9 := Tryd.zeroValue9
  t20 := Tryd.underlying20
  a20 := Tryd.isAgg20
  z20 := Tryd.sizeOf20
  v20 := Tryd.zeroValue20
  t31 := Tryd.underlying61
  a31 := Tryd.isAgg61
  z31 := Tryd.sizeOf61
  v31 := Tryd.zeroValue61
  t37 := Tryd.underlying64
  a37 := Tryd.isAgg64
  z37 := Tryd.sizeOf64
  v37 := Tryd.zeroValue64
  t70 := Tryd.underlying78
  a70 := Tryd.isAgg78
  z70 := Tryd.sizeOf78
  v70 := Tryd.zeroValue78
  t72 := Tryd.underlying80
  a72 := Tryd.isAgg80
  z72 := Tryd.sizeOf80
  v72 := Tryd.zeroValue80
  t75 := Tryd.underlying83
  a75 := Tryd.isAgg83
  z75 := Tryd.sizeOf83
  v75 := Tryd.zeroValue83
  t76 := Tryd.underlying84
  a76 := Tryd.isAgg84
  z76 := Tryd.sizeOf84
  v76 := Tryd.zeroValue84
  t127 := Tryd.underlying112
  a127 := Tryd.isAgg112
  z127 := Tryd.sizeOf112
  v127 := Tryd.zeroValue112
  t164 := Tryd.underlying122
  a164 := Tryd.isAgg122
  z164 := Tryd.sizeOf122
  v164 := Tryd.zeroValue122 }
theorem Tryd.Builder_Extra_156 : Builder.Extra Tryd.prog Tryd.lays156_ren := {
  sizeBuilder := by kernel_rfl
  liesBuilder := by kernel_rfl
  t5 := Tryd.underlying5
  a5 := Tryd.isAgg5
  z5 := Tryd.sizeOf5
  v5 := Tryd.zeroValue5
  infoByte := by kernel_rfl
  cellsByte := by kernel_rfl
  sizeByte := by kernel_rfl
  neB5 := by decide }
open Go.RowKit in
theorem Tryd.strings_Join_none (a : Option Addr) (c : Nat) (sep : ByteArray) (w : World) :
    Calls Tryd.prog 35 #[.slice a 0 c, .string sep] w fun e w' => e = .returned (.string ⟨#[]⟩) ∧ w' = w := Any.strings_Join_none Tryd.lays156 Tryd.Builder_Extra_156 a c sep w
open Go.RowKit in
theorem Tryd.strings_Join (bk o c : Nat) (xs : List ByteArray) (sep : ByteArray) (w : World) (hcells : ∀ (j : Nat) x, xs[j]? = some x → w.cell? ⟨bk, o + j, none⟩ = some (.string x)) (hbk : bk < w.heap.size) (hN : xs.length ≤ 140737488355328) (hcap : xs.length ≤ c) (hlen : (Lib.join (xs.map (·.data.toList)) sep.data.toList).length ≤ 140737488355328) :
    Calls Tryd.prog 35 #[.slice (some ⟨bk, o, none⟩) xs.length c, .string sep] w fun e w' => e = .returned (.string ⟨(Lib.join (xs.map (·.data.toList)) sep.data.toList).toArray⟩) ∧ Below w.heap.size w w' := Any.strings_Join Tryd.lays156 Tryd.Builder_Extra_156 bk o c xs sep w hcells hbk hN hcap hlen
def Tryd.lays221_ren : Go.Shelf.Ren := ⟨fun | 221 => 53 | 268 => 71 | 138 => 33 | 143 => 52 | 195 => 50 | 197 => 83 | 218 => 51 | 219 => 70 | 260 => 93 | 217 => 79 | 225 => 80 | 224 => 81 | 267 => 82 | 266 => 91 | 314 => 92 | n => n, fun | 9 => 9 | 3 => 3 | 31 => 61 | 4 => 4 | 0 => 0 | 105 => 120 | 21 => 21 | 5 => 5 | 46 => 119 | 119 => 144 | 139 => 147 | 138 => 146 | 146 => 130 | 51 => 129 | n => n, fun | 1 => 1 | 3 => 2 | 4 => 3 | n => n⟩
theorem Tryd.lays221 : Go.Proofs.Lays.n221 Tryd.prog Tryd.lays221_ren := {
  mixed := by kernel_rfl
  f138 := Tryd.func33.trans (congrArg some (by kernel_rfl))
  f143 := Tryd.func52.trans (congrArg some (by kernel_rfl))
  f195 := Tryd.func50.trans (congrArg some (by kernel_rfl))
  f197 := Tryd.func83.trans (congrArg some (by kernel_rfl))
  f217 := Tryd.func79.trans (congrArg some (by kernel_rfl))
  f218 := Tryd.func51.trans (congrArg some (by kernel_rfl))
  f219 := Tryd.func70.trans (congrArg some (by kernel_rfl))
  f221 := Tryd.func53.trans (congrArg some (by kernel_rfl))
  f224 := Tryd.func81.trans (congrArg some (by kernel_rfl))
  f225 := Tryd.func80.trans (congrArg some (by kernel_rfl))
  f260 := Tryd.func93.trans (congrArg some (by kernel_rfl))
  f266 := Tryd.func91.trans (congrArg some (by kernel_rfl))
  f267 := Tryd.func82.trans (congrArg some (by kernel_rfl))
  f268 := Tryd.func71.trans (congrArg some (by kernel_rfl))
  f314 := Tryd.func92.trans (congrArg some (by kernel_rfl))
  t0 := Tryd.underlying0
  a0 := Tryd.isAgg0
  z0 := Tryd.sizeOf0
  v0 := Tryd.zeroValue0
  t3 := Tryd.underlying3
  a3 := Tryd.isAgg3
  z3 := Tryd.sizeOf3
  v3 := Tryd.zeroValue3
  t4 := Tryd.underlying4
  a4 := Tryd.isAgg4
  z4 := Tryd.sizeOf4
  v4 := Tryd.zeroValue4
  t5 := Tryd.underlying5
  a5 := Tryd.isAgg5
  z5 := Tryd.sizeOf5
  v5 := Tryd.zeroValue5
  t9 := Tryd.underlying9
  a9 := Tryd.isAgg9
  z9 := Tryd.sizeOf9
  v9 := Tryd.zeroValue9
  t21 := Tryd.underlying21
  a21 := Tryd.isAgg21
  z21 := Tryd.sizeOf21
  v21 := Tryd.zeroValue21
  t31 := Tryd.underlying61
  a31 := Tryd.isAgg61
  z31 := Tryd.sizeOf61
  v31 := Tryd.zeroValue61
  t46 := Tryd.underlying119
  a46 := Tryd.isAgg119
  z46 := Tryd.sizeOf119
  v46 := Tryd.zeroValue119
  t51 := Tryd.underlying129
  a51 := Tryd.isAgg129
  z51 := Tryd.sizeOf129
  v51 := Tryd.zeroValue129
  t105 := Tryd.underlying120
  a105 := Tryd.isAgg120
  z105 := Tryd.sizeOf120
  v105 := Tryd.zeroValue120
  t119 := Tryd.underlying144
  a119 := Tryd.isAgg144
  z119 := Tryd.sizeOf144
  t138 := Tryd.underlying146
  a138 := Tryd.isAgg146
  z138 := Tryd.sizeOf146
  v138 := Tryd.zeroValue146
  t139 := Tryd.underlying147
  a139 := Tryd.isAgg147
  z139 := Tryd.sizeOf147
  v139 := Tryd.zeroValue147
  t146 := Tryd.underlying130
  a146 := Tryd.isAgg130
  z146 := Tryd.sizeOf130
  v146 := Tryd.zeroValue130
  g1 := by kernel_rfl
  g3 := by kernel_rfl
  g4 := by kernel_rfl }
open Go.RowKit Go.Lib in
theorem Tryd.strings_genSplit (s sep : ByteArray) (sv : Nat) (n : Int) (N : Nat) (m : Int) (w : World) (hs : s.size < 4294967281) (hm : w.cell? ⟨1, 0, none⟩ = some (.int .i64 m)) (h1 : 1 ≤ sep.size) (hsv : sv ≤ sep.size) (hn0 : n ≠ 0) (hn63 : n ≤ 9223372036854775807) (hN : (N : Int) = min (if n < 0 then (Lib.countB s sep : Int) + 1 else n) ((s.size : Int) + 1)) :
    Calls Tryd.prog 53 #[.string s, .string sep, .int .i64 sv, .int .i64 n] w fun e w' =>
      e = .returned (.slice (some ⟨w.heap.size, 0, none⟩) (Lib.splitB sep sv (N - 1) s).length N) ∧ w' = w.alloc (.cells (Lib.cellsOf (Lib.splitB sep sv (N - 1) s) N) 9) := Any.strings_genSplit Tryd.lays221 (by kernel_rfl) s sep sv n N m w hs hm h1 hsv hn0 hn63 hN
end Go.Proofs

-- Chapter 35: TraceAgain: pieces of a text, joined pieces; the plain law.
namespace Go.Dl
open Go Go.Proofs
set_option maxRecDepth 10000

/-- The lines of a text, each with its line feed. -/
def linesK : Nat → List UInt8 → List (List UInt8) := fun k s => Lib.splitK [10] 1 k s
def linesL (s : List UInt8) : List (List UInt8) := linesK (Lib.count s [10]) s
theorem index_lf (w r : List UInt8) (h : ∀ c ∈ w, c ≠ 10) : Lib.index (w ++ 10 :: r) [10] = w.length := index_at w r 10 (fun hc => h 10 hc rfl)
theorem count_lf (w r : List UInt8) (h : ∀ c ∈ w, c ≠ 10) : Lib.count (w ++ 10 :: r) [10] = Lib.count r [10] + 1 := by
  rw [Lib.count_one, Lib.count_one]
  rw [List.count_append, List.count_cons, List.count_eq_zero.2 (fun hc => h 10 hc rfl)]; simp
theorem linesL_at (w r : List UInt8) (h : ∀ c ∈ w, c ≠ 10) : linesL (w ++ 10 :: r) = (w ++ [10]) :: linesL r := by
  unfold linesL linesK
  rw [count_lf w r h, Lib.splitK, index_lf w r h, if_neg (by simp)]
  have e1 : (w ++ 10 :: r).take ((w.length : Int).toNat + 1) = w ++ [10] := by
    rw [show (w.length : Int).toNat + 1 = w.length + 1 by omega, List.take_append, List.take_of_length_le (by omega)]; simp
  have e2 : (w ++ 10 :: r).drop ((w.length : Int).toNat + [(10 : UInt8)].length) = r := by
    rw [show (w.length : Int).toNat + [(10 : UInt8)].length = w.length + 1 by simp, ← List.drop_drop, List.drop_left]; rfl
  rw [e1, e2]
theorem linesL_no (s : List UInt8) (h : ∀ c ∈ s, c ≠ 10) : linesL s = [s] := by
  unfold linesL linesK
  rw [Lib.count_one]
  rw [List.count_eq_zero.2 (fun hc => h 10 hc rfl)]; rfl
/-- A text is without a line feed, or has a first one. -/
theorem lf_cases (s : List UInt8) : (∀ c ∈ s, c ≠ 10) ∨ ∃ w r, s = w ++ 10 :: r ∧ ∀ c ∈ w, c ≠ 10 := by
  induction s with
  | nil => left; intro c hc; cases hc
  | cons c s ih =>
    by_cases h : c = 10
    · subst h; exact .inr ⟨[], s, rfl, fun c hc => by cases hc⟩
    · rcases ih with ih | ⟨w, r, rfl, hw⟩
      · left; intro d hd
        rcases List.mem_cons.1 hd with rfl | hd
        · exact h
        · exact ih d hd
      · right
        refine ⟨c :: w, r, rfl, fun d hd => ?_⟩
        rcases List.mem_cons.1 hd with rfl | hd
        · exact h
        · exact hw d hd
theorem stepR_some {w : List UInt8} {acc acc' : List Act} (h : stepR w acc = some acc') : ∃ x, TextOf x w ∧ acc' = acc ++ [x] ∧ acc.length ≠ 100000 ∧ early acc x = false := by
  unfold stepR at h
  split at h
  · rename_i x hx
    split at h
    · cases h
    · rename_i hc
      cases h
      exact ⟨x, actOf_iff.1 hx, rfl, fun e => hc (.inl e), by cases he : early acc x with
        | true => exact absurd (.inr he) hc
        | false => rfl⟩
  · cases h

theorem rdL_ok : ∀ (n : Nat) (s : List UInt8) (acc L : List Act), s.length ≤ n → acc.length ≤ 100000 → sortedA acc = true → rdL s acc = (L, 0, 0) →
    ∃ M, L = acc ++ M ∧ textL M = s ∧ (∀ x ∈ M, ActW x ∧ validA x = true) ∧ sortedA L = true ∧ L.length ≤ 100000
  | 0, s, acc, L, hn, ha, hs, h => by
    have : s = [] := List.length_eq_zero_iff.1 (by omega)
    subst this; rw [rdL_nil] at h; cases h
    exact ⟨[], by simp, rfl, fun _ h => (by cases h), hs, ha⟩
  | n + 1, s, acc, L, hn, ha, hs, h => by
    rcases lf_cases s with hno | ⟨w, r, rfl, hw⟩
    · by_cases he : s = []
      · subst he; rw [rdL_nil] at h; cases h
        exact ⟨[], by simp, rfl, fun _ h => (by cases h), hs, ha⟩
      · rw [rdL_none he hno] at h; cases h
    · rw [rdL_line hw] at h
      split at h
      · cases h
      · rename_i acc' e
        obtain ⟨x, hx, rfl, h1, h2⟩ := stepR_some e
        have hs' : sortedA (acc ++ [x]) = true := by
          rw [sorted_pair, List.pairwise_append]
          refine ⟨sorted_pair.1 hs, List.pairwise_singleton _ _, fun a ha b hb => ?_⟩
          rw [List.mem_singleton] at hb; subst hb
          have hne : acc ≠ [] := fun e => by subst e; cases ha
          rw [early_last hne, decide_eq_false_iff_not] at h2
          obtain ⟨i, hi, rfl⟩ := List.mem_iff_getElem.1 ha
          have hg : acc.getD (acc.length - 1) default = acc[acc.length - 1]'(by omega) := by simp [List.getD, List.getElem?_eq_getElem (show acc.length - 1 < acc.length by omega)]
          rw [hg] at h2
          by_cases hl : i = acc.length - 1
          · subst hl; omega
          · have := List.pairwise_iff_getElem.1 (sorted_pair.1 hs) i (acc.length - 1) hi (by omega) (by omega)
            omega
        obtain ⟨M, hM, ht, hv, hss, hl⟩ := rdL_ok n r (acc ++ [x]) L (by simp at hn; omega) (by simp; omega) hs' h
        refine ⟨x :: M, by rw [hM]; simp, ?_, fun y hy => ?_, hss, hl⟩
        · have e : textL (x :: M) = oneT x ++ 10 :: textL M := by simp [textL, lineT]
          rw [e, ht, hx.2.2]
        · rcases List.mem_cons.1 hy with rfl | hy
          · exact ⟨hx.1, hx.2.1⟩
          · exact hv y hy
theorem rdL_bad : ∀ (n : Nat) (s : List UInt8) (acc L : List Act) (line e : Int), s.length ≤ n → rdL s acc = (L, line, e) → (e = 0 ∧ line = 0) ∨ (e = 350 ∧ L = [] ∧ ∃ k, ∃ h : k < (linesL s).length, line = acc.length + k + 1 ∧ (linesL s)[k] ≠ [] ∧
    (∃ M, rdL ((linesL s).take k).flatten acc = (M, 0, 0) ∧ M.length = acc.length + k) ∧ rdL (((linesL s).take k).flatten ++ (linesL s)[k]) acc = ([], line, 350))
  | 0, s, acc, L, line, e, hn, h => by
    have : s = [] := List.length_eq_zero_iff.1 (by omega)
    subst this; rw [rdL_nil] at h; cases h; exact .inl ⟨rfl, rfl⟩
  | n + 1, s, acc, L, line, e, hn, h => by
    rcases lf_cases s with hno | ⟨w, r, rfl, hw⟩
    · by_cases he : s = []
      · subst he; rw [rdL_nil] at h; cases h; exact .inl ⟨rfl, rfl⟩
      · have h0 := rdL_none he hno acc
        rw [h0] at h; cases h
        right
        have hl := linesL_no s hno
        refine ⟨rfl, rfl, 0, by rw [hl]; simp, by omega, ?_, ⟨acc, by simp [rdL_nil], by omega⟩, ?_⟩
        · simp only [hl, List.getElem_cons_zero]; exact he
        · simp only [hl, List.take_zero, List.flatten_nil, List.nil_append, List.getElem_cons_zero]; exact h0
    · have hl := linesL_at w r hw
      have hr := fun a => rdL_line (r := r) hw a
      rw [hr] at h
      split at h
      · rename_i hst
        cases h
        right
        refine ⟨rfl, rfl, 0, by rw [hl]; simp, by omega, ?_, ⟨acc, by simp [rdL_nil], by omega⟩, ?_⟩
        · simp only [hl, List.getElem_cons_zero]; simp
        · simp only [hl, List.take_zero, List.flatten_nil, List.nil_append, List.getElem_cons_zero]
          rw [show w ++ [10] = w ++ 10 :: [] from rfl, rdL_line hw, hst]
      · rename_i acc' hst
        obtain ⟨x, _, rfl, _, _⟩ := stepR_some hst
        rcases rdL_bad n r (acc ++ [x]) L line e (by simp at hn; omega) h with hh | ⟨h1, h2, k, hk, h3, h4, ⟨M, h5, h6⟩, h7⟩
        · exact .inl hh
        · right
          have hline : ∀ t, rdL (w ++ [10] ++ t) acc = rdL t (acc ++ [x]) := fun t => by
            rw [List.append_assoc, show [(10 : UInt8)] ++ t = 10 :: t from rfl, rdL_line hw, hst]
          refine ⟨h1, h2, k + 1, by rw [hl]; simpa using hk, by rw [h3]; simp; omega, ?_, ⟨M, ?_, by rw [h6]; simp; omega⟩, ?_⟩
          · simp only [hl, List.getElem_cons_succ]; exact h4
          · simp only [hl, List.take_succ_cons, List.flatten_cons]; rw [hline]; exact h5
          · simp only [hl, List.take_succ_cons, List.flatten_cons, List.getElem_cons_succ]
            rw [List.append_assoc, hline]; exact h7
theorem linesL_flat : ∀ (n : Nat) (s : List UInt8), s.length ≤ n → (linesL s).flatten = s ∧ (linesL s).length ≤ s.length + 1
  | 0, s, hn => by
    have : s = [] := List.length_eq_zero_iff.1 (by omega)
    subst this; rw [linesL_no [] (fun _ h => by cases h)]; simp
  | n + 1, s, hn => by
    rcases lf_cases s with hno | ⟨w, r, rfl, hw⟩
    · rw [linesL_no s hno]; simp
    · have := linesL_flat n r (by simp at hn; omega)
      rw [linesL_at w r hw, List.flatten_cons, this.1]
      constructor
      · simp
      · simp; omega
end Go.Dl

-- Chapter 35: TraceAgain at the data level.
namespace Go.Dl
open Go Go.Proofs
set_option maxRecDepth 10000

theorem join_flat (l : List (List UInt8)) : Lib.join l [] = l.flatten := by
  unfold Lib.join
  induction l with
  | nil => rfl
  | cons x l ih =>
    cases l with
    | nil => simp [List.intercalate]
    | cons y l =>
      simp only [List.intercalate, List.intersperse, List.flatten_cons] at ih ⊢
      rw [ih]; simp

theorem genSplit_spec {G : Nat → DVal} (hG : GT G) (H : DHeap) (s : List UInt8) (hs : s.length < 4294967281) :
    DCalls Tryd.prog G 53 [.str s, .str [10], .int .i64 1, .int .i64 (-1)] H (DRet (dStrs (linesL s)) H) := by
  have hc : Lib.countB ⟨⟨s⟩⟩ ⟨#[10]⟩ = Lib.count s [10] := rfl
  have h1 : 1 ≤ (ByteArray.mk #[10]).size := by decide
  have hle := Lib.countB_le ⟨#[10]⟩ h1 (ByteArray.mk ⟨s⟩).size ⟨⟨s⟩⟩ (Nat.le_refl _)
  have hlen := Lib.splitB_all ⟨#[10]⟩ h1 1 _ ⟨⟨s⟩⟩ rfl
  have hd := Lib.splitB_data ⟨#[10]⟩ 1 (Lib.countB ⟨⟨s⟩⟩ ⟨#[10]⟩) ⟨⟨s⟩⟩
  have hsz : (ByteArray.mk ⟨s⟩).size = s.length := rfl
  refine DCalls.quiet Tryd.call53 fun vs w hv hH hg => ?_
  simp only [RelL, Rel] at hv
  obtain ⟨_, _, rfl, rfl, _, _, rfl, rfl, _, _, rfl, rfl, _, _, rfl, rfl, rfl⟩ := hv
  obtain ⟨m, e1⟩ := hG.maxLen
  obtain ⟨x, c, r⟩ := var_cell hg e1
  simp only [Rel] at r; subst r
  have key := Tryd.strings_genSplit ⟨⟨s⟩⟩ ⟨#[10]⟩ 1 (-1) (Lib.countB ⟨⟨s⟩⟩ ⟨#[10]⟩ + 1) m w (by rw [hsz]; exact hs) c h1 (by decide) (by decide) (by decide) (by rw [if_pos (by decide)]; omega)
  refine key.mono fun e w' ⟨he, hw⟩ => ?_
  rw [Nat.add_sub_cancel] at he hw
  generalize hps : Lib.splitB ⟨#[10]⟩ 1 (Lib.countB ⟨⟨s⟩⟩ ⟨#[10]⟩) ⟨⟨s⟩⟩ = ps at he hw hlen hd
  have hll : linesL s = ps.map (·.data.toList) := by rw [hd]; rfl
  subst he; subst hw
  refine ⟨⟨rfl, rfl, rfl, by show _ ≤ (w.heap.push _).size; simp, fun b hb => by show (w.heap.push _)[b]? = _; simp [Array.getElem?_push, Nat.ne_of_lt hb]⟩, _, rfl, .ret _ _ ?_⟩
  simp only [dStrs, Rel]
  refine ⟨_, _, by rw [hll, List.length_map], by rw [hll, List.length_map]; omega, .inr ⟨w.heap.size, 0, ps.map Value.string, rfl, .inr ⟨?_, fun i x hx => ?_⟩, ?_⟩⟩
  · cases e : H w.heap.size with
    | none => rfl
    | some o => have := hH.lt (r := w.heap.size) (by simp [e]); omega
  · have hx' : (Lib.cellsOf ps (Lib.countB ⟨⟨s⟩⟩ ⟨#[10]⟩ + 1))[i]? = some x := by
      unfold Lib.cellsOf
      rw [List.getElem?_toArray, List.getElem?_append_left (by have := (List.getElem?_eq_some_iff.1 hx).1; simpa using this)]; exact hx
    simp only [World.alloc, World.cell?, Nat.zero_add]
    rw [Array.getElem?_push_size]
    simpa using hx'
  · rw [hll, List.map_map]
    refine RelL.mk (by simp) fun i d x h1 h2 => ?_
    simp only [List.getElem?_map, Option.map_eq_some_iff] at h1 h2
    obtain ⟨a, ha, rfl⟩ := h1
    obtain ⟨b, hb, rfl⟩ := h2
    rw [ha] at hb; cases hb
    simp [Rel]

theorem splitAfter_spec {G : Nat → DVal} (hG : GT G) (H : DHeap) (s : List UInt8) (hs : s.length < 4294967281) :
    DCalls Tryd.prog G 34 [.str s, .str [10]] H (DRet (dStrs (linesL s)) H) := by
  refine dcalls_intro Tryd.func34 Tryd.call34 rfl (by kernel_rfl) ?_
  simp (disch := omega) only [go_sem, Nat.reduceEqDiff, Nat.reduceAdd, Nat.reduceMul, Nat.reduceSub, Nat.reduceLeDiff, ↓reduceIte, reduceCtorEq, Int.reduceAdd, Int.reduceSub, Int.reduceMul, Int.reduceNeg, Int.reduceToNat, List.reduceReplicate, String.reduceEq]
  refine (genSplit_spec hG H s hs).mono ?_
  rintro _ H ⟨rfl, rfl⟩
  simp (disch := omega) only [go_sem, Nat.reduceEqDiff, Nat.reduceAdd, Nat.reduceMul, Nat.reduceSub, Nat.reduceLeDiff, ↓reduceIte, reduceCtorEq, Int.reduceAdd, Int.reduceSub, Int.reduceMul, Int.reduceNeg, Int.reduceToNat, List.reduceReplicate, String.reduceEq]
  exact DFin.refl ⟨rfl, rfl⟩

theorem join_spec {G : Nat → DVal} (H : DHeap) (l : List (List UInt8)) (hl : l.length ≤ 140737488355328) (hf : l.flatten.length ≤ 140737488355328) :
    DCalls Tryd.prog G 35 [dStrs l, .str []] H (DRet (.str l.flatten) H) := by
  refine DCalls.quiet Tryd.call35 fun vs w hv hH hg => ?_
  simp only [RelL, Rel, dStrs] at hv
  obtain ⟨_, _, rfl, ⟨a, cap, rfl, hle, ha⟩, _, _, rfl, rfl, rfl⟩ := hv
  by_cases hz : l = []
  · subst hz
    refine (Tryd.strings_Join_none a cap ⟨⟨[]⟩⟩ w).mono fun e w' ⟨he, hw⟩ => ?_
    subst he; subst hw
    exact ⟨.refl _, _, rfl, .ret _ _ (by simp [Rel])⟩
  · obtain ⟨b, o, xs, rfl, hc, hr⟩ := ha.resolve_left (by simpa using hz)
    obtain ⟨x0, l0, rfl⟩ := List.exists_cons_of_ne_nil hz
    have hcells : ∀ (j : Nat) (x : ByteArray), ((x0 :: l0).map fun s => (ByteArray.mk ⟨s⟩))[j]? = some x → w.cell? ⟨b, o + j, none⟩ = some (.string x) := fun j x hx => by
      simp only [List.getElem?_map, Option.map_eq_some_iff] at hx
      obtain ⟨s, hs, rfl⟩ := hx
      obtain ⟨y, hy, hrel⟩ := hr.get (i := j) (d := .str s) (by rw [List.getElem?_map, hs]; rfl)
      simp only [Rel] at hrel; subst hrel
      exact hc.holds j _ hy
    have hbk : b < w.heap.size := cell_lt (hcells 0 _ rfl)
    have hd : ((x0 :: l0).map fun s => (ByteArray.mk ⟨s⟩)).map (·.data.toList) = x0 :: l0 := by
      rw [List.map_map]; simp [Function.comp_def]
    have key := Tryd.strings_Join b o cap ((x0 :: l0).map fun s => ⟨⟨s⟩⟩) ⟨⟨[]⟩⟩ w hcells hbk (by rw [List.length_map]; exact hl) (by rw [List.length_map]; exact hle) (by
      rw [hd, show (ByteArray.mk ⟨[]⟩).data.toList = ([] : List UInt8) from rfl, join_flat]; exact hf)
    rw [hd, show (ByteArray.mk ⟨[]⟩).data.toList = ([] : List UInt8) from rfl, join_flat, List.length_map] at key
    refine key.mono fun e w' ⟨he, hw⟩ => ?_
    subst he
    exact ⟨.below hw, _, rfl, .ret _ _ (by simp [Rel])⟩

theorem traceAgain_spec {G : Nat → DVal} (hG : GAll G) (H : DHeap) (s : List UInt8) (hs : s.length ≤ 9223372036854775807) : DCalls Tryd.prog G 9 [.str s] H (DRet (.bool true) H) := by
  refine dcalls_intro Tryd.func9 Tryd.call9 rfl (by kernel_rfl) ?_
  by_cases c : 40000 < s.length
  · simp (disch := omega) only [go_sem, Nat.reduceEqDiff, Nat.reduceAdd, Nat.reduceMul, Nat.reduceSub, Nat.reduceLeDiff, ↓reduceIte, reduceCtorEq, Int.reduceAdd, Int.reduceSub, Int.reduceMul, Int.reduceNeg, Int.reduceToNat, List.reduceReplicate, String.reduceEq]
    refine (awake35_spec hG H).mono ?_
    rintro _ H ⟨rfl, rfl⟩
    simp (disch := omega) only [go_sem, Nat.reduceEqDiff, Nat.reduceAdd, Nat.reduceMul, Nat.reduceSub, Nat.reduceLeDiff, ↓reduceIte, reduceCtorEq, Int.reduceAdd, Int.reduceSub, Int.reduceMul, Int.reduceNeg, Int.reduceToNat, List.reduceReplicate, String.reduceEq]
    exact DFin.refl ⟨rfl, rfl⟩
  have hln := readL_len s
  simp (disch := omega) only [go_sem, Nat.reduceEqDiff, Nat.reduceAdd, Nat.reduceMul, Nat.reduceSub, Nat.reduceLeDiff, ↓reduceIte, reduceCtorEq, Int.reduceAdd, Int.reduceSub, Int.reduceMul, Int.reduceNeg, Int.reduceToNat, List.reduceReplicate, String.reduceEq]
  refine (read_spec hG.gt hG.k hG.p H s (by omega)).mono ?_
  rintro _ H ⟨rfl, rfl⟩
  obtain ⟨L, line, e, hr⟩ : ∃ L line e, readL s = (L, line, e) := ⟨_, _, _, rfl⟩
  rw [hr] at hln ⊢
  have hr2 : rdL s [] = (L, line, e) := by rw [← hr, readL, if_neg (by omega)]
  rcases rdL_bad s.length s [] L line e (Nat.le_refl _) hr2 with ⟨rfl, rfl⟩ | ⟨rfl, rfl, k, hk, h3, h4, ⟨M, h5, h6⟩, h7⟩
  · obtain ⟨M, hM, ht, hv, hss, hl⟩ := rdL_ok s.length s [] L (Nat.le_refl _) (by simp) rfl hr2
    rw [List.nil_append] at hM; subst hM
    have hw : ActsW L := fun x hx => (hv x hx).1
    have hm : mayA L = true := by
      rw [mayA, decide_eq_true hl, Bool.true_and, List.all_eq_true.2 fun x hx => (hv x hx).2, hss]; rfl
    have hD : textD L = (s, 0) := by rw [textD, if_pos hm, ht, if_pos (by omega)]
    simp (disch := omega) only [go_sem, Nat.reduceEqDiff, Nat.reduceAdd, Nat.reduceMul, Nat.reduceSub, Nat.reduceLeDiff, ↓reduceIte, reduceCtorEq, Int.reduceAdd, Int.reduceSub, Int.reduceMul, Int.reduceNeg, Int.reduceToNat, List.reduceReplicate, String.reduceEq]
    refine (text_spec hG.k hG.p H L hw (by omega)).mono ?_
    rintro _ H ⟨rfl, rfl⟩
    rw [hD]
    simp (disch := omega) only [go_sem, Nat.reduceEqDiff, Nat.reduceAdd, Nat.reduceMul, Nat.reduceSub, Nat.reduceLeDiff, ↓reduceIte, reduceCtorEq, Int.reduceAdd, Int.reduceSub, Int.reduceMul, Int.reduceNeg, Int.reduceToNat, List.reduceReplicate, String.reduceEq]
    refine (rmay_spec G H L (by omega) hw).mono ?_
    rintro _ H ⟨rfl, rfl⟩
    rw [hm]
    simp (disch := omega) only [go_sem, Nat.reduceEqDiff, Nat.reduceAdd, Nat.reduceMul, Nat.reduceSub, Nat.reduceLeDiff, ↓reduceIte, reduceCtorEq, Int.reduceAdd, Int.reduceSub, Int.reduceMul, Int.reduceNeg, Int.reduceToNat, List.reduceReplicate, String.reduceEq]
    refine (awake35_spec hG H).mono ?_
    rintro _ H ⟨rfl, rfl⟩
    simp (disch := omega) only [go_sem, Nat.reduceEqDiff, Nat.reduceAdd, Nat.reduceMul, Nat.reduceSub, Nat.reduceLeDiff, ↓reduceIte, reduceCtorEq, Int.reduceAdd, Int.reduceSub, Int.reduceMul, Int.reduceNeg, Int.reduceToNat, List.reduceReplicate, String.reduceEq]
    exact DFin.refl ⟨rfl, rfl⟩
  · obtain ⟨hfl, hll⟩ := linesL_flat s.length s (Nat.le_refl _)
    simp (disch := omega) only [go_sem, Nat.reduceEqDiff, Nat.reduceAdd, Nat.reduceMul, Nat.reduceSub, Nat.reduceLeDiff, ↓reduceIte, reduceCtorEq, Int.reduceAdd, Int.reduceSub, Int.reduceMul, Int.reduceNeg, Int.reduceToNat, List.reduceReplicate, String.reduceEq]
    refine (splitAfter_spec hG.gt H s (by omega)).mono ?_
    rintro _ H ⟨rfl, rfl⟩
    generalize linesL s = Z at hk h4 h7 h5 hfl hll ⊢
    have hL3 : line = (k : Int) + 1 := by simpa using h3
    subst hL3
    have hk1 : (k : Int) + 1 - 1 = k := by omega
    have hget : (Z.map DVal.str)[k]? = some (.str Z[k]) := by rw [List.getElem?_map, List.getElem?_eq_getElem hk]; rfl
    obtain ⟨z, hz⟩ : ∃ z, Z[k] = z := ⟨_, rfl⟩
    rw [hz] at hget h4 h7
    simp (disch := omega) only [go_sem, Nat.reduceEqDiff, Nat.reduceAdd, Nat.reduceMul, Nat.reduceSub, Nat.reduceLeDiff, ↓reduceIte, reduceCtorEq, Int.reduceAdd, Int.reduceSub, Int.reduceMul, Int.reduceNeg, Int.reduceToNat, List.reduceReplicate, String.reduceEq, dStrs, dActs_nil, List.length_map, hk1, hget]
    rw [Nat.sub_zero]
    have hq : DVal.vslice (List.take k (Z.map DVal.str)) k = dStrs (Z.take k) := by
      rw [dStrs, List.map_take, List.length_take, Nat.min_eq_left (by omega)]
    rw [hq]
    have hsp : s = (Z.take k).flatten ++ z ++ (Z.drop (k + 1)).flatten := by
      rw [← hfl]
      conv => lhs; rw [← List.take_append_drop k Z, List.drop_eq_getElem_cons hk, hz]
      rw [List.flatten_append, List.flatten_cons, List.append_assoc]
    have hsl : (Z.take k).flatten.length + z.length ≤ s.length := by rw [hsp]; simp only [List.length_append]; omega
    generalize hB : (Z.take k).flatten = B at h5 h7 hsl
    have h5' : readL B = (M, 0, 0) := by rw [readL, if_neg (by omega), h5]
    have h7' : readL (B ++ z) = ([], (k : Int) + 1, 350) := by rw [readL, if_neg (by rw [List.length_append]; omega), h7]
    have hM : (M.length : Int) = k := by simp at h6; omega
    refine (join_spec H (Z.take k) (by rw [List.length_take]; omega) (by rw [hB]; omega)).mono ?_
    rintro _ H ⟨rfl, rfl⟩
    rw [hB]
    simp (disch := omega) only [go_sem, Nat.reduceEqDiff, Nat.reduceAdd, Nat.reduceMul, Nat.reduceSub, Nat.reduceLeDiff, ↓reduceIte, reduceCtorEq, Int.reduceAdd, Int.reduceSub, Int.reduceMul, Int.reduceNeg, Int.reduceToNat, List.reduceReplicate, String.reduceEq]
    refine (read_spec hG.gt hG.k hG.p H B (by omega)).mono ?_
    rintro _ H ⟨rfl, rfl⟩
    rw [h5']
    simp (disch := omega) only [go_sem, Nat.reduceEqDiff, Nat.reduceAdd, Nat.reduceMul, Nat.reduceSub, Nat.reduceLeDiff, ↓reduceIte, reduceCtorEq, Int.reduceAdd, Int.reduceSub, Int.reduceMul, Int.reduceNeg, Int.reduceToNat, List.reduceReplicate, String.reduceEq, dStrs, List.length_map, hk1, hget]
    refine (read_spec hG.gt hG.k hG.p H (B ++ z) (by rw [List.length_append]; omega)).mono ?_
    rintro _ H ⟨rfl, rfl⟩
    rw [h7']
    simp (disch := omega) only [go_sem, Nat.reduceEqDiff, Nat.reduceAdd, Nat.reduceMul, Nat.reduceSub, Nat.reduceLeDiff, ↓reduceIte, reduceCtorEq, Int.reduceAdd, Int.reduceSub, Int.reduceMul, Int.reduceNeg, Int.reduceToNat, List.reduceReplicate, String.reduceEq, dActs]
    refine (awake35_spec hG H).mono ?_
    rintro _ H ⟨rfl, rfl⟩
    simp (disch := omega) only [go_sem, Nat.reduceEqDiff, Nat.reduceAdd, Nat.reduceMul, Nat.reduceSub, Nat.reduceLeDiff, ↓reduceIte, reduceCtorEq, Int.reduceAdd, Int.reduceSub, Int.reduceMul, Int.reduceNeg, Int.reduceToNat, List.reduceReplicate, String.reduceEq]
    exact DFin.refl ⟨rfl, rfl⟩
end Go.Dl

-- Chapter 35: what the row of TraceAgain imports.
