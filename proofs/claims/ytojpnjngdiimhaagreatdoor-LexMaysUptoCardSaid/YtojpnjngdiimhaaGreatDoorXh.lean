/- The data level and the contracts of the functions that are reached (part 8). -/
import Derived.Test.YtojpnjngdiimhaaGreatDoorRows
import Derived.LaidLaws
import Derived.Test.YtojpnjngdiimhaaGreatDoorXg
set_option linter.unusedSimpArgs false
set_option linter.unusedVariables false
-- Chapter 2: strings.Builder's WriteByte, Len; join, Text.
namespace Go.Dl
open Go Go.Proofs
set_option maxRecDepth 100000

section
variable {G : Nat → DVal} {H : DHeap}
theorem writeByte_spec {H0 : DHeap} {b : Nat} {l : List UInt8} (c : UInt8) (h : Bld H b l H0) (hl : l.length + 1 ≤ 35184372088832) :
    DCalls Tryz.prog G 79 [.optr b 0, .int .u8 c.toNat] H0 (fun e H1 => e = .ret .nilIface ∧ Bld H b (l ++ [c]) H1) := by
  obtain ⟨h1, p, v, hp, hnil, hv⟩ := h
  have hb0 := hv.keep (r := b) (upd_same _ _ _)
  have hlast : ∀ H2 v2 p', (p' = .nilPtr ∨ p' = .optr b 0) → OwnJ (upd H b (some (.cells [p', v] 74))) 5 1 (l.length + 1) (dBy l ++ [.int .u8 c.toNat]) v2 H2 → Bld H b (l ++ [c]) (upd H2 b (some (.cells [p', v2] 74))) := fun H2 v2 p' q1 q3 => by
    refine ⟨h1, p', v2, q1, fun e => (by simp at e), ?_⟩
    have := q3.rebl (o' := .cells [p', v2] 74)
    rw [List.length_append, dBy_append]
    exact this
  refine dcalls_intro Tryz.func79 Tryz.call79 rfl (by kernel_rfl) ?_
  simp (disch := omega) only [go_sem, Nat.reduceEqDiff, Nat.reduceAdd, Nat.reduceMul, Nat.reduceSub, Nat.reduceLeDiff, ↓reduceIte, reduceCtorEq, Int.reduceAdd, Int.reduceSub, Int.reduceMul, Int.reduceNeg, Int.reduceToNat, List.reduceReplicate, String.reduceEq]
  rcases hp with rfl | rfl
  · refine (copyCheck_fresh hb0).mono ?_
    rintro _ H1 ⟨rfl, rfl⟩
    have hv' : OwnJ (upd H b (some (.cells [.optr b 0, v] 74))) 5 1 l.length (dBy l) v (upd H0 b (some (.cells [.optr b 0, v] 74))) := hv.rebl
    simp (disch := omega) only [go_sem, Nat.reduceEqDiff, Nat.reduceAdd, Nat.reduceMul, Nat.reduceSub, Nat.reduceLeDiff, ↓reduceIte, reduceCtorEq, Int.reduceAdd, Int.reduceSub, Int.reduceMul, Int.reduceNeg, Int.reduceToNat, List.reduceReplicate, String.reduceEq]
    intro ns hns; dsimp only at hns
    have hne : b ≠ ns := fun e => by rw [← e, upd_same] at hns; cases hns
    simp (disch := omega) only [go_sem, Nat.reduceEqDiff, Nat.reduceAdd, Nat.reduceMul, Nat.reduceSub, Nat.reduceLeDiff, ↓reduceIte, reduceCtorEq, Int.reduceAdd, Int.reduceSub, Int.reduceMul, Int.reduceNeg, Int.reduceToNat, List.reduceReplicate, String.reduceEq, hne]
    refine OwnJ.append (m := 1) (hv'.new hns _) rfl (by omega) fun v2 H2 q2 => ?_
    have hb2 := q2.keep (r := b) (upd_same _ _ _)
    have c2 := q2.cell1
    simp (disch := omega) only [go_sem, Nat.reduceEqDiff, Nat.reduceAdd, Nat.reduceMul, Nat.reduceSub, Nat.reduceLeDiff, ↓reduceIte, reduceCtorEq, Int.reduceAdd, Int.reduceSub, Int.reduceMul, Int.reduceNeg, Int.reduceToNat, List.reduceReplicate, String.reduceEq, hb2, c2.1, c2.2, List.all_cons, List.all_nil]
    exact DFin.refl ⟨rfl, hlast _ _ _ (.inr rfl) q2⟩
  · refine (copyCheck_used hb0).mono ?_
    rintro _ H1 ⟨rfl, rfl⟩
    simp (disch := omega) only [go_sem, Nat.reduceEqDiff, Nat.reduceAdd, Nat.reduceMul, Nat.reduceSub, Nat.reduceLeDiff, ↓reduceIte, reduceCtorEq, Int.reduceAdd, Int.reduceSub, Int.reduceMul, Int.reduceNeg, Int.reduceToNat, List.reduceReplicate, String.reduceEq, hb0]
    intro ns hns; dsimp only at hns
    have hne : b ≠ ns := fun e => by rw [← e, hb0] at hns; cases hns
    simp (disch := omega) only [go_sem, Nat.reduceEqDiff, Nat.reduceAdd, Nat.reduceMul, Nat.reduceSub, Nat.reduceLeDiff, ↓reduceIte, reduceCtorEq, Int.reduceAdd, Int.reduceSub, Int.reduceMul, Int.reduceNeg, Int.reduceToNat, List.reduceReplicate, String.reduceEq, hne, hb0]
    refine OwnJ.append (m := 1) (hv.new hns _) rfl (by omega) fun v2 H2 q2 => ?_
    have hb2 := q2.keep (r := b) (upd_same _ _ _)
    have c2 := q2.cell1
    simp (disch := omega) only [go_sem, Nat.reduceEqDiff, Nat.reduceAdd, Nat.reduceMul, Nat.reduceSub, Nat.reduceLeDiff, ↓reduceIte, reduceCtorEq, Int.reduceAdd, Int.reduceSub, Int.reduceMul, Int.reduceNeg, Int.reduceToNat, List.reduceReplicate, String.reduceEq, hb2, c2.1, c2.2, List.all_cons, List.all_nil]
    exact DFin.refl ⟨rfl, hlast _ _ _ (.inr rfl) q2⟩
theorem bldLen_spec {H0 : DHeap} {b : Nat} {l : List UInt8} (h : Bld H b l H0) : DCalls Tryz.prog G 60 [.optr b 0] H0 (DRet (dI l.length) H0) := by
  obtain ⟨h1, p, v, hp, hnil, hv⟩ := h
  have hb0 := hv.keep (r := b) (upd_same _ _ _)
  refine dcalls_intro Tryz.func60 Tryz.call60 rfl (by kernel_rfl) ?_
  simp (disch := omega) only [go_sem, Nat.reduceEqDiff, Nat.reduceAdd, Nat.reduceMul, Nat.reduceSub, Nat.reduceLeDiff, ↓reduceIte, reduceCtorEq, Int.reduceAdd, Int.reduceSub, Int.reduceMul, Int.reduceNeg, Int.reduceToNat, List.reduceReplicate, String.reduceEq, hb0, hv.dLen]
  exact DFin.refl ⟨rfl, rfl⟩
/-- The tokens' text up to token k. -/
def joinK (l : List Tok) (k : Nat) : List UInt8 := joinT (l.take k)
theorem joinR_snoc : ∀ (l : List Tok) (t : Tok) (a : Option Tok), joinR a (l ++ [t]) = joinR a l ++ ((match (match l.getLast? with | some x => some x | none => a) with | some x => if apartT x t then [32] else [] | none => []) ++ textT t)
  | [], t, none => by simp [joinR]
  | [], t, some a => by simp [joinR]
  | x :: l, t, a => by
    have ih := joinR_snoc l t (some x)
    have hlast : (match l.getLast? with | some y => some y | none => some x) = (x :: l).getLast? := by
      cases l with
      | nil => rfl
      | cons y l => rw [List.getLast?_cons_cons]; cases h : (y :: l).getLast? with
        | none => simp at h
        | some z => rfl
    rw [hlast] at ih
    cases hl : (x :: l).getLast? with
    | none => simp at hl
    | some z =>
      rw [hl] at ih
      cases a with
      | none =>
        show textT x ++ joinR (some x) (l ++ [t]) = textT x ++ joinR (some x) l ++ _
        rw [ih, List.append_assoc]
      | some a =>
        show (if apartT a x then [32] else []) ++ (textT x ++ joinR (some x) (l ++ [t])) = (if apartT a x then [32] else []) ++ (textT x ++ joinR (some x) l) ++ _
        rw [ih]; simp [List.append_assoc]
theorem joinK_succ {l : List Tok} {k : Nat} (h : k < l.length) : joinK l (k + 1) = joinK l k ++ ((if hk : 0 < k then (if apartT (l[k - 1]'(by omega)) l[k] then [32] else []) else []) ++ textT l[k]) := by
  rw [joinK, List.take_add_one, List.getElem?_eq_getElem h, joinT, Option.toList_some, joinR_snoc]
  congr 2
  by_cases hk : 0 < k
  · rw [dif_pos hk]
    have : (l.take k).getLast? = some (l[k - 1]'(by omega)) := by
      rw [List.getLast?_eq_getElem?, List.length_take, Nat.min_eq_left (by omega), List.getElem?_take, if_pos (by omega), List.getElem?_eq_getElem (by omega)]
    rw [this]
  · have : k = 0 := by omega
    subst this
    simp
def joinD (l : List Tok) : List UInt8 × Bool := if fineT l then (joinT l, true) else ([], false)
theorem fine_take {l : List Tok} {k : Nat} (h : fineT (l.take k) = true) (hk : k < l.length) (hm : mayT l[k] = true) : fineT (l.take (k + 1)) = true := by
  rw [List.take_add_one, List.getElem?_eq_getElem hk, fineT, List.all_append]
  rw [fineT] at h
  rw [h]; simp [hm]
theorem text_le {t : Tok} (h : mayT t = true) : t.text.length ≤ 32 := by
  have := (text_char h).2.2
  rw [textT, List.length_append] at this; omega
theorem joinK_len {l : List Tok} {k : Nat} (h : fineT (l.take k) = true) : (joinK l k).length ≤ 33 * k := by
  have := (joinR_len _ none h).2
  rw [joinK, joinT]
  rw [List.length_take] at this
  omega
set_option maxHeartbeats 4000000 in
theorem join_spec (hG : GX G) (H : DHeap) (l : List Tok) (hl : l.length ≤ 1000000000) (hT : ∀ t ∈ l, t.text.length ≤ 9223372036854775807) : DCalls Tryz.prog G 56 [dToks l] H (DRet (.tuple [.str (joinD l).1, .bool (joinD l).2]) H) := by
  refine dcalls_intro Tryz.func56 Tryz.call56 rfl (by kernel_rfl) ?_
  simp (disch := omega) only [go_sem, Nat.reduceEqDiff, Nat.reduceAdd, Nat.reduceMul, Nat.reduceSub, Nat.reduceLeDiff, ↓reduceIte, reduceCtorEq, Int.reduceAdd, Int.reduceSub, Int.reduceMul, Int.reduceNeg, Int.reduceToNat, List.reduceReplicate, String.reduceEq]
  intro rb hrb; dsimp only at hrb
  simp (disch := omega) only [go_sem, Nat.reduceEqDiff, Nat.reduceAdd, Nat.reduceMul, Nat.reduceSub, Nat.reduceLeDiff, ↓reduceIte, reduceCtorEq, Int.reduceAdd, Int.reduceSub, Int.reduceMul, Int.reduceNeg, Int.reduceToNat, List.reduceReplicate, String.reduceEq, dToks]
  obtain ⟨I, hI⟩ : ∃ I : Nat → (Nat → DVal) → DHeap → Prop, ∀ k env heap, I k env heap ↔ (env 0 = .vslice (l.flatMap dTok) l.length ∧ env 4 = .optr rb 0 ∧ env 7 = .vslice (l.flatMap dTok) l.length ∧ env 8 = dI l.length ∧ env 9 = dI k ∧ k ≤ l.length ∧ fineT (l.take k) = true ∧ Bld H rb (joinK l k) heap) := ⟨_, fun _ _ _ => Iff.rfl⟩
  refine DLoop.run I (fun k => l.length - k) 0 ((hI _ _ _).2 ?_) ?_
  · simp (disch := omega) only [go_sem, Nat.reduceEqDiff, Nat.reduceAdd, Nat.reduceMul, Nat.reduceSub, Nat.reduceLeDiff, ↓reduceIte, reduceCtorEq, Int.reduceAdd, Int.reduceSub, Int.reduceMul, Int.reduceNeg, Int.reduceToNat, List.reduceReplicate, String.reduceEq]
    (repeat' apply And.intro) <;> (try first | rfl | assumption | omega)
    exact Bld.new hrb
  · intro k env heap hi
    obtain ⟨e0, e4, e7, e8, e9, hk, hf, hB⟩ := (hI _ _ _).1 hi
    have hjl := joinK_len hf
    by_cases hlt : k < l.length
    · have hlt' : (k : Int) < (l.length : Int) := by omega
      have hget := flat_el dTok_len l k hlt
      have hfl := flat_len dTok_len l
      have htx := hT l[k] (List.getElem_mem hlt)
      simp (disch := omega) only [go_sem, Nat.reduceEqDiff, Nat.reduceAdd, Nat.reduceMul, Nat.reduceSub, Nat.reduceLeDiff, ↓reduceIte, reduceCtorEq, Int.reduceAdd, Int.reduceSub, Int.reduceMul, Int.reduceNeg, Int.reduceToNat, List.reduceReplicate, String.reduceEq, e0, e4, e7, e8, e9, hlt', hget, hfl, Int.toNat_natCast]
      intro r6 hr6; dsimp only at hr6
      have hB1 := hB.frame hr6 (.cells (dTok l[k]) 27)
      have hH6 : H r6 = none := hB.sub.lo hr6
      have hsub6 : Sub H (upd H r6 (some (.cells (dTok l[k]) 27))) := (Sub.refl H).up hH6 _
      simp (disch := omega) only [go_sem, Nat.reduceEqDiff, Nat.reduceAdd, Nat.reduceMul, Nat.reduceSub, Nat.reduceLeDiff, ↓reduceIte, reduceCtorEq, Int.reduceAdd, Int.reduceSub, Int.reduceMul, Int.reduceNeg, Int.reduceToNat, List.reduceReplicate, String.reduceEq, e0, e4, e7, e8, e9, dTok_len, dTok_t4, dTok_d4, dTok_one, List.append_nil]
      refine (may_spec hG _ l[k] (by omega)).mono ?_
      rintro _ H1 ⟨rfl, rfl⟩
      cases hm : mayT l[k] with
      | false =>
        simp (disch := omega) only [go_sem, Nat.reduceEqDiff, Nat.reduceAdd, Nat.reduceMul, Nat.reduceSub, Nat.reduceLeDiff, ↓reduceIte, reduceCtorEq, Int.reduceAdd, Int.reduceSub, Int.reduceMul, Int.reduceNeg, Int.reduceToNat, List.reduceReplicate, String.reduceEq, e0, e4, e7, e8, e9]
        refine DFin.sub (hsub6.trans hB1.sub) (DFin.refl ⟨?_, rfl⟩)
        have : fineT l = false := by
          rw [fineT, List.all_eq_false]
          exact ⟨l[k], List.getElem_mem hlt, by rw [hm]; simp⟩
        rw [joinD, this]; rfl
      | true =>
        have htx : l[k].text.length ≤ 32 := text_le hm
        have hfk := fine_take hf hlt hm
        have hsucc := joinK_succ hlt
        have hwd : IntKind.i64.wrap ((k : Int) + 1) = ((k + 1 : Nat) : Int) := by rw [IntKind.wrap_i64]; omega
        by_cases h0 : 0 < k
        · have h0' : (0 : Int) < (k : Int) := by omega
          have hkm : k - 1 < l.length := by omega
          have hgetp := flat_el dTok_len l (k - 1) hkm
          have hw1 : IntKind.i64.wrap ((k : Int) - 1) = ((k - 1 : Nat) : Int) := by rw [IntKind.wrap_i64]; omega
          have hkm' : ((k - 1 : Nat) : Int) < (l.length : Int) := by omega
          rw [dif_pos h0] at hsucc
          simp (disch := omega) only [go_sem, Nat.reduceEqDiff, Nat.reduceAdd, Nat.reduceMul, Nat.reduceSub, Nat.reduceLeDiff, ↓reduceIte, reduceCtorEq, Int.reduceAdd, Int.reduceSub, Int.reduceMul, Int.reduceNeg, Int.reduceToNat, List.reduceReplicate, String.reduceEq, e0, e4, e7, e8, e9]
          refine dwp_draws (by kernel_rfl) (.take 0 (.take 1 (.take 2 (.take 3 (.take 4 (.take 5 (.take 6 (.take 7 (.take 8 (.go 9 [] (.take 10 .done))))))))))) (by kernel_rfl) ?_
          simp (disch := omega) only [go_sem, Nat.reduceEqDiff, Nat.reduceAdd, Nat.reduceMul, Nat.reduceSub, Nat.reduceLeDiff, ↓reduceIte, reduceCtorEq, Int.reduceAdd, Int.reduceSub, Int.reduceMul, Int.reduceNeg, Int.reduceToNat, List.reduceReplicate, String.reduceEq, e0, e4, e7, e8, e9, h0', hw1, hgetp, hfl, hkm', Int.toNat_natCast, dTok_len, dTok_t4]
          refine (apart_spec G _ l[k - 1] l[k]).mono ?_
          rintro _ H1 ⟨rfl, rfl⟩
          cases hap : apartT l[k - 1] l[k] with
          | true =>
            rw [hap, if_pos rfl, ← List.append_assoc] at hsucc
            simp (disch := omega) only [go_sem, Nat.reduceEqDiff, Nat.reduceAdd, Nat.reduceMul, Nat.reduceSub, Nat.reduceLeDiff, ↓reduceIte, reduceCtorEq, Int.reduceAdd, Int.reduceSub, Int.reduceMul, Int.reduceNeg, Int.reduceToNat, List.reduceReplicate, String.reduceEq, e0, e4, e7, e8, e9]
            refine (writeByte_spec 32 hB1 (by omega)).mono ?_
            rintro _ H2 ⟨rfl, hB2⟩
            · have hlb : (joinK l k).length + 1 ≤ 34000000000 := by omega
              have kr := hB2.sub r6 _ (upd_same _ _ _)
              by_cases k3 : l[k].kind = 3
              · obtain ⟨_, _, hn0, hn1⟩ : l[k].kind = 3 ∧ l[k].text = [] ∧ 0 ≤ l[k].n ∧ l[k].n ≤ 2147483647 := by
                  rcases mayT_kind hm with h | h | h | h
                  · omega
                  · omega
                  · omega
                  · exact h
                have hi64 : I64 l[k].n := ⟨by omega, by omega⟩
                have hil := itoa_len hi64
                simp (disch := omega) only [go_sem, Nat.reduceEqDiff, Nat.reduceAdd, Nat.reduceMul, Nat.reduceSub, Nat.reduceLeDiff, ↓reduceIte, reduceCtorEq, Int.reduceAdd, Int.reduceSub, Int.reduceMul, Int.reduceNeg, Int.reduceToNat, List.reduceReplicate, String.reduceEq, e0, e4, e7, e8, e9, kr, dTok_len, dTok_0, dTok_2, dTok_3, k3]
                refine (formatInt_spec hG.pow l[k].n hi64).mono ?_
                rintro _ H4 ⟨rfl, rfl⟩
                simp (disch := omega) only [go_sem, Nat.reduceEqDiff, Nat.reduceAdd, Nat.reduceMul, Nat.reduceSub, Nat.reduceLeDiff, ↓reduceIte, reduceCtorEq, Int.reduceAdd, Int.reduceSub, Int.reduceMul, Int.reduceNeg, Int.reduceToNat, List.reduceReplicate, String.reduceEq, e0, e4, e7, e8, e9, kr, dTok_len, dTok_0, dTok_2, dTok_3, k3]
                refine (writeString_spec (Lib.itoa l[k].n) hB2 (by first | omega | (simp only [List.length_append, List.length_cons, List.length_nil]; omega))).mono ?_
                rintro _ H5 ⟨rfl, hB5⟩
                have kr5 := hB5.sub r6 _ (upd_same _ _ _)
                simp (disch := omega) only [go_sem, Nat.reduceEqDiff, Nat.reduceAdd, Nat.reduceMul, Nat.reduceSub, Nat.reduceLeDiff, ↓reduceIte, reduceCtorEq, Int.reduceAdd, Int.reduceSub, Int.reduceMul, Int.reduceNeg, Int.reduceToNat, List.reduceReplicate, String.reduceEq, e0, e4, e7, e8, e9, kr5, dTok_len, dTok_0, dTok_2, dTok_3, k3]
                refine (writeString_spec l[k].text hB5 (by simp only [List.length_append, List.length_cons, List.length_nil]; omega)).mono ?_
                rintro _ H6 ⟨rfl, hB6⟩
                simp (disch := omega) only [go_sem, Nat.reduceEqDiff, Nat.reduceAdd, Nat.reduceMul, Nat.reduceSub, Nat.reduceLeDiff, ↓reduceIte, reduceCtorEq, Int.reduceAdd, Int.reduceSub, Int.reduceMul, Int.reduceNeg, Int.reduceToNat, List.reduceReplicate, String.reduceEq, e0, e4, e7, e8, e9]
                refine ⟨k + 1, _, GhostS.refl _, (hI _ _ _).2 ?_, by omega⟩
                simp (disch := omega) only [go_sem, Nat.reduceEqDiff, Nat.reduceAdd, Nat.reduceMul, Nat.reduceSub, Nat.reduceLeDiff, ↓reduceIte, reduceCtorEq, Int.reduceAdd, Int.reduceSub, Int.reduceMul, Int.reduceNeg, Int.reduceToNat, List.reduceReplicate, String.reduceEq, e0, e4, e7, e8, e9, hwd]
                (repeat' apply And.intro) <;> (try first | rfl | assumption | omega)
                rw [hsucc, textT, if_pos k3, ← List.append_assoc]
                exact hB6.less hsub6
              · simp (disch := omega) only [go_sem, Nat.reduceEqDiff, Nat.reduceAdd, Nat.reduceMul, Nat.reduceSub, Nat.reduceLeDiff, ↓reduceIte, reduceCtorEq, Int.reduceAdd, Int.reduceSub, Int.reduceMul, Int.reduceNeg, Int.reduceToNat, List.reduceReplicate, String.reduceEq, e0, e4, e7, e8, e9, kr, dTok_len, dTok_0, dTok_2, dTok_3, k3]
                refine (writeString_spec l[k].text hB2 (by first | omega | (simp only [List.length_append, List.length_cons, List.length_nil]; omega))).mono ?_
                rintro _ H6 ⟨rfl, hB6⟩
                simp (disch := omega) only [go_sem, Nat.reduceEqDiff, Nat.reduceAdd, Nat.reduceMul, Nat.reduceSub, Nat.reduceLeDiff, ↓reduceIte, reduceCtorEq, Int.reduceAdd, Int.reduceSub, Int.reduceMul, Int.reduceNeg, Int.reduceToNat, List.reduceReplicate, String.reduceEq, e0, e4, e7, e8, e9]
                refine ⟨k + 1, _, GhostS.refl _, (hI _ _ _).2 ?_, by omega⟩
                simp (disch := omega) only [go_sem, Nat.reduceEqDiff, Nat.reduceAdd, Nat.reduceMul, Nat.reduceSub, Nat.reduceLeDiff, ↓reduceIte, reduceCtorEq, Int.reduceAdd, Int.reduceSub, Int.reduceMul, Int.reduceNeg, Int.reduceToNat, List.reduceReplicate, String.reduceEq, e0, e4, e7, e8, e9, hwd]
                (repeat' apply And.intro) <;> (try first | rfl | assumption | omega)
                rw [hsucc, textT, if_neg k3, List.nil_append]
                exact hB6.less hsub6
          | false =>
            rw [hap, if_neg (by simp), List.nil_append] at hsucc
            simp (disch := omega) only [go_sem, Nat.reduceEqDiff, Nat.reduceAdd, Nat.reduceMul, Nat.reduceSub, Nat.reduceLeDiff, ↓reduceIte, reduceCtorEq, Int.reduceAdd, Int.reduceSub, Int.reduceMul, Int.reduceNeg, Int.reduceToNat, List.reduceReplicate, String.reduceEq, e0, e4, e7, e8, e9]
            · have hlb : (joinK l k).length + 1 ≤ 34000000000 := by omega
              have kr := hB1.sub r6 _ (upd_same _ _ _)
              by_cases k3 : l[k].kind = 3
              · obtain ⟨_, _, hn0, hn1⟩ : l[k].kind = 3 ∧ l[k].text = [] ∧ 0 ≤ l[k].n ∧ l[k].n ≤ 2147483647 := by
                  rcases mayT_kind hm with h | h | h | h
                  · omega
                  · omega
                  · omega
                  · exact h
                have hi64 : I64 l[k].n := ⟨by omega, by omega⟩
                have hil := itoa_len hi64
                simp (disch := omega) only [go_sem, Nat.reduceEqDiff, Nat.reduceAdd, Nat.reduceMul, Nat.reduceSub, Nat.reduceLeDiff, ↓reduceIte, reduceCtorEq, Int.reduceAdd, Int.reduceSub, Int.reduceMul, Int.reduceNeg, Int.reduceToNat, List.reduceReplicate, String.reduceEq, e0, e4, e7, e8, e9, kr, dTok_len, dTok_0, dTok_2, dTok_3, k3]
                refine (formatInt_spec hG.pow l[k].n hi64).mono ?_
                rintro _ H4 ⟨rfl, rfl⟩
                simp (disch := omega) only [go_sem, Nat.reduceEqDiff, Nat.reduceAdd, Nat.reduceMul, Nat.reduceSub, Nat.reduceLeDiff, ↓reduceIte, reduceCtorEq, Int.reduceAdd, Int.reduceSub, Int.reduceMul, Int.reduceNeg, Int.reduceToNat, List.reduceReplicate, String.reduceEq, e0, e4, e7, e8, e9, kr, dTok_len, dTok_0, dTok_2, dTok_3, k3]
                refine (writeString_spec (Lib.itoa l[k].n) hB1 (by first | omega | (simp only [List.length_append, List.length_cons, List.length_nil]; omega))).mono ?_
                rintro _ H5 ⟨rfl, hB5⟩
                have kr5 := hB5.sub r6 _ (upd_same _ _ _)
                simp (disch := omega) only [go_sem, Nat.reduceEqDiff, Nat.reduceAdd, Nat.reduceMul, Nat.reduceSub, Nat.reduceLeDiff, ↓reduceIte, reduceCtorEq, Int.reduceAdd, Int.reduceSub, Int.reduceMul, Int.reduceNeg, Int.reduceToNat, List.reduceReplicate, String.reduceEq, e0, e4, e7, e8, e9, kr5, dTok_len, dTok_0, dTok_2, dTok_3, k3]
                refine (writeString_spec l[k].text hB5 (by simp only [List.length_append, List.length_cons, List.length_nil]; omega)).mono ?_
                rintro _ H6 ⟨rfl, hB6⟩
                simp (disch := omega) only [go_sem, Nat.reduceEqDiff, Nat.reduceAdd, Nat.reduceMul, Nat.reduceSub, Nat.reduceLeDiff, ↓reduceIte, reduceCtorEq, Int.reduceAdd, Int.reduceSub, Int.reduceMul, Int.reduceNeg, Int.reduceToNat, List.reduceReplicate, String.reduceEq, e0, e4, e7, e8, e9]
                refine ⟨k + 1, _, GhostS.refl _, (hI _ _ _).2 ?_, by omega⟩
                simp (disch := omega) only [go_sem, Nat.reduceEqDiff, Nat.reduceAdd, Nat.reduceMul, Nat.reduceSub, Nat.reduceLeDiff, ↓reduceIte, reduceCtorEq, Int.reduceAdd, Int.reduceSub, Int.reduceMul, Int.reduceNeg, Int.reduceToNat, List.reduceReplicate, String.reduceEq, e0, e4, e7, e8, e9, hwd]
                (repeat' apply And.intro) <;> (try first | rfl | assumption | omega)
                rw [hsucc, textT, if_pos k3, ← List.append_assoc]
                exact hB6.less hsub6
              · simp (disch := omega) only [go_sem, Nat.reduceEqDiff, Nat.reduceAdd, Nat.reduceMul, Nat.reduceSub, Nat.reduceLeDiff, ↓reduceIte, reduceCtorEq, Int.reduceAdd, Int.reduceSub, Int.reduceMul, Int.reduceNeg, Int.reduceToNat, List.reduceReplicate, String.reduceEq, e0, e4, e7, e8, e9, kr, dTok_len, dTok_0, dTok_2, dTok_3, k3]
                refine (writeString_spec l[k].text hB1 (by first | omega | (simp only [List.length_append, List.length_cons, List.length_nil]; omega))).mono ?_
                rintro _ H6 ⟨rfl, hB6⟩
                simp (disch := omega) only [go_sem, Nat.reduceEqDiff, Nat.reduceAdd, Nat.reduceMul, Nat.reduceSub, Nat.reduceLeDiff, ↓reduceIte, reduceCtorEq, Int.reduceAdd, Int.reduceSub, Int.reduceMul, Int.reduceNeg, Int.reduceToNat, List.reduceReplicate, String.reduceEq, e0, e4, e7, e8, e9]
                refine ⟨k + 1, _, GhostS.refl _, (hI _ _ _).2 ?_, by omega⟩
                simp (disch := omega) only [go_sem, Nat.reduceEqDiff, Nat.reduceAdd, Nat.reduceMul, Nat.reduceSub, Nat.reduceLeDiff, ↓reduceIte, reduceCtorEq, Int.reduceAdd, Int.reduceSub, Int.reduceMul, Int.reduceNeg, Int.reduceToNat, List.reduceReplicate, String.reduceEq, e0, e4, e7, e8, e9, hwd]
                (repeat' apply And.intro) <;> (try first | rfl | assumption | omega)
                rw [hsucc, textT, if_neg k3, List.nil_append]
                exact hB6.less hsub6
        · have h0' : ¬ (0 : Int) < (k : Int) := by omega
          rw [dif_neg h0, List.nil_append] at hsucc
          simp (disch := omega) only [go_sem, Nat.reduceEqDiff, Nat.reduceAdd, Nat.reduceMul, Nat.reduceSub, Nat.reduceLeDiff, ↓reduceIte, reduceCtorEq, Int.reduceAdd, Int.reduceSub, Int.reduceMul, Int.reduceNeg, Int.reduceToNat, List.reduceReplicate, String.reduceEq, e0, e4, e7, e8, e9]
          refine dwp_draws (by kernel_rfl) (.take 0 (.take 1 (.take 2 (.take 3 (.take 4 (.take 5 (.take 6 (.take 7 (.take 8 (.go 9 [] (.take 10 .done))))))))))) (by kernel_rfl) ?_
          simp (disch := omega) only [go_sem, Nat.reduceEqDiff, Nat.reduceAdd, Nat.reduceMul, Nat.reduceSub, Nat.reduceLeDiff, ↓reduceIte, reduceCtorEq, Int.reduceAdd, Int.reduceSub, Int.reduceMul, Int.reduceNeg, Int.reduceToNat, List.reduceReplicate, String.reduceEq, e0, e4, e7, e8, e9, h0']
          · have hlb : (joinK l k).length + 1 ≤ 34000000000 := by omega
            have kr := hB1.sub r6 _ (upd_same _ _ _)
            by_cases k3 : l[k].kind = 3
            · obtain ⟨_, _, hn0, hn1⟩ : l[k].kind = 3 ∧ l[k].text = [] ∧ 0 ≤ l[k].n ∧ l[k].n ≤ 2147483647 := by
                rcases mayT_kind hm with h | h | h | h
                · omega
                · omega
                · omega
                · exact h
              have hi64 : I64 l[k].n := ⟨by omega, by omega⟩
              have hil := itoa_len hi64
              simp (disch := omega) only [go_sem, Nat.reduceEqDiff, Nat.reduceAdd, Nat.reduceMul, Nat.reduceSub, Nat.reduceLeDiff, ↓reduceIte, reduceCtorEq, Int.reduceAdd, Int.reduceSub, Int.reduceMul, Int.reduceNeg, Int.reduceToNat, List.reduceReplicate, String.reduceEq, e0, e4, e7, e8, e9, kr, dTok_len, dTok_0, dTok_2, dTok_3, k3]
              refine (formatInt_spec hG.pow l[k].n hi64).mono ?_
              rintro _ H4 ⟨rfl, rfl⟩
              simp (disch := omega) only [go_sem, Nat.reduceEqDiff, Nat.reduceAdd, Nat.reduceMul, Nat.reduceSub, Nat.reduceLeDiff, ↓reduceIte, reduceCtorEq, Int.reduceAdd, Int.reduceSub, Int.reduceMul, Int.reduceNeg, Int.reduceToNat, List.reduceReplicate, String.reduceEq, e0, e4, e7, e8, e9, kr, dTok_len, dTok_0, dTok_2, dTok_3, k3]
              refine (writeString_spec (Lib.itoa l[k].n) hB1 (by first | omega | (simp only [List.length_append, List.length_cons, List.length_nil]; omega))).mono ?_
              rintro _ H5 ⟨rfl, hB5⟩
              have kr5 := hB5.sub r6 _ (upd_same _ _ _)
              simp (disch := omega) only [go_sem, Nat.reduceEqDiff, Nat.reduceAdd, Nat.reduceMul, Nat.reduceSub, Nat.reduceLeDiff, ↓reduceIte, reduceCtorEq, Int.reduceAdd, Int.reduceSub, Int.reduceMul, Int.reduceNeg, Int.reduceToNat, List.reduceReplicate, String.reduceEq, e0, e4, e7, e8, e9, kr5, dTok_len, dTok_0, dTok_2, dTok_3, k3]
              refine (writeString_spec l[k].text hB5 (by simp only [List.length_append, List.length_cons, List.length_nil]; omega)).mono ?_
              rintro _ H6 ⟨rfl, hB6⟩
              simp (disch := omega) only [go_sem, Nat.reduceEqDiff, Nat.reduceAdd, Nat.reduceMul, Nat.reduceSub, Nat.reduceLeDiff, ↓reduceIte, reduceCtorEq, Int.reduceAdd, Int.reduceSub, Int.reduceMul, Int.reduceNeg, Int.reduceToNat, List.reduceReplicate, String.reduceEq, e0, e4, e7, e8, e9]
              refine ⟨k + 1, _, GhostS.refl _, (hI _ _ _).2 ?_, by omega⟩
              simp (disch := omega) only [go_sem, Nat.reduceEqDiff, Nat.reduceAdd, Nat.reduceMul, Nat.reduceSub, Nat.reduceLeDiff, ↓reduceIte, reduceCtorEq, Int.reduceAdd, Int.reduceSub, Int.reduceMul, Int.reduceNeg, Int.reduceToNat, List.reduceReplicate, String.reduceEq, e0, e4, e7, e8, e9, hwd]
              (repeat' apply And.intro) <;> (try first | rfl | assumption | omega)
              rw [hsucc, textT, if_pos k3, ← List.append_assoc]
              exact hB6.less hsub6
            · simp (disch := omega) only [go_sem, Nat.reduceEqDiff, Nat.reduceAdd, Nat.reduceMul, Nat.reduceSub, Nat.reduceLeDiff, ↓reduceIte, reduceCtorEq, Int.reduceAdd, Int.reduceSub, Int.reduceMul, Int.reduceNeg, Int.reduceToNat, List.reduceReplicate, String.reduceEq, e0, e4, e7, e8, e9, kr, dTok_len, dTok_0, dTok_2, dTok_3, k3]
              refine (writeString_spec l[k].text hB1 (by first | omega | (simp only [List.length_append, List.length_cons, List.length_nil]; omega))).mono ?_
              rintro _ H6 ⟨rfl, hB6⟩
              simp (disch := omega) only [go_sem, Nat.reduceEqDiff, Nat.reduceAdd, Nat.reduceMul, Nat.reduceSub, Nat.reduceLeDiff, ↓reduceIte, reduceCtorEq, Int.reduceAdd, Int.reduceSub, Int.reduceMul, Int.reduceNeg, Int.reduceToNat, List.reduceReplicate, String.reduceEq, e0, e4, e7, e8, e9]
              refine ⟨k + 1, _, GhostS.refl _, (hI _ _ _).2 ?_, by omega⟩
              simp (disch := omega) only [go_sem, Nat.reduceEqDiff, Nat.reduceAdd, Nat.reduceMul, Nat.reduceSub, Nat.reduceLeDiff, ↓reduceIte, reduceCtorEq, Int.reduceAdd, Int.reduceSub, Int.reduceMul, Int.reduceNeg, Int.reduceToNat, List.reduceReplicate, String.reduceEq, e0, e4, e7, e8, e9, hwd]
              (repeat' apply And.intro) <;> (try first | rfl | assumption | omega)
              rw [hsucc, textT, if_neg k3, List.nil_append]
              exact hB6.less hsub6
    · have : k = l.length := by omega
      subst this
      rw [List.take_length] at hf
      simp (disch := omega) only [go_sem, Nat.reduceEqDiff, Nat.reduceAdd, Nat.reduceMul, Nat.reduceSub, Nat.reduceLeDiff, ↓reduceIte, reduceCtorEq, Int.reduceAdd, Int.reduceSub, Int.reduceMul, Int.reduceNeg, Int.reduceToNat, List.reduceReplicate, String.reduceEq, e0, e4, e7, e8, e9]
      refine (string_spec hB (by omega)).mono ?_
      rintro _ H1 ⟨rfl, hs1⟩
      simp (disch := omega) only [go_sem, Nat.reduceEqDiff, Nat.reduceAdd, Nat.reduceMul, Nat.reduceSub, Nat.reduceLeDiff, ↓reduceIte, reduceCtorEq, Int.reduceAdd, Int.reduceSub, Int.reduceMul, Int.reduceNeg, Int.reduceToNat, List.reduceReplicate, String.reduceEq]
      refine DFin.sub hs1 (DFin.refl ⟨?_, rfl⟩)
      rw [joinD, hf, joinK, List.take_length]; rfl
end
end Go.Dl

-- Chapter 2: Text, Lines.
namespace Go.Dl
open Go Go.Proofs
set_option maxRecDepth 100000

structure Lin where
  depth : Int
  l : List Tok
  deriving DecidableEq, Inhabited
def dLin (x : Lin) : List DVal := [dI x.depth, dToks x.l]
theorem dLin_len (x : Lin) : (dLin x).length = 2 := rfl
theorem dLin_t2 (x : Lin) : (dLin x).take 2 = dLin x := rfl
theorem dLin_one (x : Lin) : (dLin x).all (fun d => d.one) = true := rfl
theorem dLin_0 (x : Lin) : (dLin x)[0]? = some (dI x.depth) := rfl
theorem dLin_1 (x : Lin) : (dLin x)[1]? = some (dToks x.l) := rfl
def textD (l : List Tok) : List UInt8 × Int := if fineT l then (if 256 < (joinT l).length then ([], 3) else (joinT l, 0)) else ([], 2)
def okLin (x : Lin) : Bool := fineT x.l && decide (0 ≤ x.depth) && decide (x.depth ≤ 80)
def longLin (x : Lin) : Bool := decide (256 < 2 * x.depth + ((joinT x.l).length : Int))
def linT (x : Lin) : List UInt8 := lineX x.depth.toNat x.l ++ [10]
def linesT (ls : List Lin) : List UInt8 := ls.flatMap linT
def linesD (ls : List Lin) : List UInt8 × Int := if ls.all okLin then (if ls.any longLin || decide (65536 < (linesT ls).length) then ([], 3) else (linesT ls, 0)) else ([], 2)
section
variable {G : Nat → DVal} {H : DHeap}
theorem lexText_spec (hG : GX G) (H : DHeap) (l : List Tok) (hl : l.length ≤ 1000000000) (hT : ∀ t ∈ l, t.text.length ≤ 9223372036854775807) : DCalls Tryz.prog G 24 [dToks l] H (DRet (.tuple [.str (textD l).1, dI (textD l).2]) H) := by
  refine dcalls_intro Tryz.func24 Tryz.call24 rfl (by kernel_rfl) ?_
  simp (disch := omega) only [go_sem, Nat.reduceEqDiff, Nat.reduceAdd, Nat.reduceMul, Nat.reduceSub, Nat.reduceLeDiff, ↓reduceIte, reduceCtorEq, Int.reduceAdd, Int.reduceSub, Int.reduceMul, Int.reduceNeg, Int.reduceToNat, List.reduceReplicate, String.reduceEq]
  refine (join_spec hG _ l hl hT).mono ?_
  rintro _ H1 ⟨rfl, rfl⟩
  cases hf : fineT l with
  | false =>
    rw [show joinD l = ([], false) by rw [joinD, hf]; rfl]
    simp (disch := omega) only [go_sem, Nat.reduceEqDiff, Nat.reduceAdd, Nat.reduceMul, Nat.reduceSub, Nat.reduceLeDiff, ↓reduceIte, reduceCtorEq, Int.reduceAdd, Int.reduceSub, Int.reduceMul, Int.reduceNeg, Int.reduceToNat, List.reduceReplicate, String.reduceEq]
    exact DFin.refl ⟨by rw [textD, hf]; rfl, rfl⟩
  | true =>
    rw [show joinD l = (joinT l, true) by rw [joinD, hf]; rfl]
    by_cases h : 256 < (joinT l).length
    · have h' : (256 : Int) < ((joinT l).length : Int) := by omega
      simp (disch := omega) only [go_sem, Nat.reduceEqDiff, Nat.reduceAdd, Nat.reduceMul, Nat.reduceSub, Nat.reduceLeDiff, ↓reduceIte, reduceCtorEq, Int.reduceAdd, Int.reduceSub, Int.reduceMul, Int.reduceNeg, Int.reduceToNat, List.reduceReplicate, String.reduceEq, h']
      exact DFin.refl ⟨by rw [textD, hf, if_pos rfl, if_pos h], rfl⟩
    · have h' : ¬ (256 : Int) < ((joinT l).length : Int) := by omega
      simp (disch := omega) only [go_sem, Nat.reduceEqDiff, Nat.reduceAdd, Nat.reduceMul, Nat.reduceSub, Nat.reduceLeDiff, ↓reduceIte, reduceCtorEq, Int.reduceAdd, Int.reduceSub, Int.reduceMul, Int.reduceNeg, Int.reduceToNat, List.reduceReplicate, String.reduceEq, h']
      exact DFin.refl ⟨by rw [textD, hf, if_pos rfl, if_neg h], rfl⟩
theorem linT_len {x : Lin} (h : okLin x = true) (hl : x.l.length ≤ 100000) : (linT x).length ≤ 3300161 := by
  simp only [okLin, Bool.and_eq_true, decide_eq_true_eq] at h
  have := (joinR_len x.l none h.1.1).2
  rw [linT, lineX, List.length_append, List.length_append, List.length_replicate, List.length_singleton, joinT]
  omega
theorem linesT_len : ∀ (ls : List Lin), ls.all okLin = true → (∀ x ∈ ls, x.l.length ≤ 100000) → (linesT ls).length ≤ 3300161 * ls.length
  | [], _, _ => by simp [linesT]
  | x :: ls, h, hl => by
    rw [List.all_cons, Bool.and_eq_true] at h
    have h1 := linT_len h.1 (hl x (by simp))
    have h2 := linesT_len ls h.2 fun y hy => hl y (by simp [hy])
    rw [show linesT (x :: ls) = linT x ++ linesT ls from rfl, List.length_append, List.length_cons]
    omega
theorem take_flat {α : Type} {f : α → List UInt8} {l : List α} {k : Nat} (hk : k < l.length) : (l.take (k + 1)).flatMap f = (l.take k).flatMap f ++ f l[k] := by
  rw [List.take_add_one, List.getElem?_eq_getElem hk, List.flatMap_append]; simp
theorem take_all2 {α : Type} {p : α → Bool} {l : List α} {k : Nat} (h : (l.take k).all p = true) (hk : k < l.length) (hp : p l[k] = true) : (l.take (k + 1)).all p = true := by
  rw [List.take_add_one, List.getElem?_eq_getElem hk, List.all_append, h]; simp [hp]
theorem take_any {α : Type} {p : α → Bool} {l : List α} {k : Nat} (hk : k < l.length) : (l.take (k + 1)).any p = ((l.take k).any p || p l[k]) := by
  rw [List.take_add_one, List.getElem?_eq_getElem hk, List.any_append]; simp
set_option maxHeartbeats 4000000 in
theorem lexLines_spec (hG : GX G) (H : DHeap) (ls : List Lin) (hl : ls.length ≤ 100000) (hL : ∀ x ∈ ls, x.l.length ≤ 100000 ∧ ∀ t ∈ x.l, t.text.length ≤ 9223372036854775807) : DCalls Tryz.prog G 26 [.vslice (ls.flatMap dLin) ls.length] H (DRet (.tuple [.str (linesD ls).1, dI (linesD ls).2]) H) := by
  refine dcalls_intro Tryz.func26 Tryz.call26 rfl (by kernel_rfl) ?_
  simp (disch := omega) only [go_sem, Nat.reduceEqDiff, Nat.reduceAdd, Nat.reduceMul, Nat.reduceSub, Nat.reduceLeDiff, ↓reduceIte, reduceCtorEq, Int.reduceAdd, Int.reduceSub, Int.reduceMul, Int.reduceNeg, Int.reduceToNat, List.reduceReplicate, String.reduceEq]
  intro rb hrb; dsimp only at hrb
  simp (disch := omega) only [go_sem, Nat.reduceEqDiff, Nat.reduceAdd, Nat.reduceMul, Nat.reduceSub, Nat.reduceLeDiff, ↓reduceIte, reduceCtorEq, Int.reduceAdd, Int.reduceSub, Int.reduceMul, Int.reduceNeg, Int.reduceToNat, List.reduceReplicate, String.reduceEq]
  obtain ⟨I, hI⟩ : ∃ I : Nat → (Nat → DVal) → DHeap → Prop, ∀ k env heap, I k env heap ↔ (env 4 = .optr rb 0 ∧ env 5 = .bool ((ls.take k).any longLin) ∧ env 10 = .vslice (ls.flatMap dLin) ls.length ∧ env 11 = dI ls.length ∧ env 12 = dI k ∧ k ≤ ls.length ∧ (ls.take k).all okLin = true ∧ Bld H rb (linesT (ls.take k)) heap) := ⟨_, fun _ _ _ => Iff.rfl⟩
  refine DLoop.run I (fun k => ls.length - k) 0 ((hI _ _ _).2 ?_) ?_
  · simp (disch := omega) only [go_sem, Nat.reduceEqDiff, Nat.reduceAdd, Nat.reduceMul, Nat.reduceSub, Nat.reduceLeDiff, ↓reduceIte, reduceCtorEq, Int.reduceAdd, Int.reduceSub, Int.reduceMul, Int.reduceNeg, Int.reduceToNat, List.reduceReplicate, String.reduceEq]
    (repeat' apply And.intro) <;> (try first | rfl | assumption | omega)
    exact Bld.new hrb
  · intro k env heap hi
    obtain ⟨e4, e5, e10, e11, e12, hk, hf, hB⟩ := (hI _ _ _).1 hi
    have htl := linesT_len (ls.take k) hf fun x hx => (hL x (List.mem_of_mem_take hx)).1
    rw [List.length_take, Nat.min_eq_left hk] at htl
    by_cases hlt : k < ls.length
    · have hlt' : (k : Int) < (ls.length : Int) := by omega
      have hget := flat_el dLin_len ls k hlt
      have hfl := flat_len dLin_len ls
      obtain ⟨hx1, hx2⟩ := hL ls[k] (List.getElem_mem hlt)
      simp (disch := omega) only [go_sem, Nat.reduceEqDiff, Nat.reduceAdd, Nat.reduceMul, Nat.reduceSub, Nat.reduceLeDiff, ↓reduceIte, reduceCtorEq, Int.reduceAdd, Int.reduceSub, Int.reduceMul, Int.reduceNeg, Int.reduceToNat, List.reduceReplicate, String.reduceEq, e4, e5, e10, e11, e12, hlt', hget, hfl, Int.toNat_natCast]
      intro r7 hr7; dsimp only at hr7
      have hB1 := hB.frame hr7 (.cells (dLin ls[k]) 32)
      have hH7 : H r7 = none := hB.sub.lo hr7
      have hsub7 : Sub H (upd H r7 (some (.cells (dLin ls[k]) 32))) := (Sub.refl H).up hH7 _
      simp (disch := omega) only [go_sem, Nat.reduceEqDiff, Nat.reduceAdd, Nat.reduceMul, Nat.reduceSub, Nat.reduceLeDiff, ↓reduceIte, reduceCtorEq, Int.reduceAdd, Int.reduceSub, Int.reduceMul, Int.reduceNeg, Int.reduceToNat, List.reduceReplicate, String.reduceEq, e4, e5, e10, e11, e12, dLin_len, dLin_t2, dLin_one, dLin_0, dLin_1, List.append_nil]
      refine (join_spec hG _ ls[k].l (by omega) hx2).mono ?_
      rintro _ H1 ⟨rfl, rfl⟩
      have hbad : okLin ls[k] = false → ls.all okLin = false := fun h => by
        rw [List.all_eq_false]
        exact ⟨ls[k], List.getElem_mem hlt, by rw [h]; simp⟩
      have hfin : ls.all okLin = false → linesD ls = ([], 2) := fun h => by rw [linesD, h]; rfl
      cases hj : fineT ls[k].l with
      | false =>
        rw [show joinD ls[k].l = ([], false) by rw [joinD, hj]; rfl]
        simp (disch := omega) only [go_sem, Nat.reduceEqDiff, Nat.reduceAdd, Nat.reduceMul, Nat.reduceSub, Nat.reduceLeDiff, ↓reduceIte, reduceCtorEq, Int.reduceAdd, Int.reduceSub, Int.reduceMul, Int.reduceNeg, Int.reduceToNat, List.reduceReplicate, String.reduceEq, e4, e5, e10, e11, e12]
        refine DFin.sub (hsub7.trans hB1.sub) (DFin.refl ⟨?_, rfl⟩)
        rw [hfin (hbad (by rw [okLin, hj]; rfl))]
      | true =>
        rw [show joinD ls[k].l = (joinT ls[k].l, true) by rw [joinD, hj]; rfl]
        by_cases hd0 : ls[k].depth < 0
        · simp (disch := omega) only [go_sem, Nat.reduceEqDiff, Nat.reduceAdd, Nat.reduceMul, Nat.reduceSub, Nat.reduceLeDiff, ↓reduceIte, reduceCtorEq, Int.reduceAdd, Int.reduceSub, Int.reduceMul, Int.reduceNeg, Int.reduceToNat, List.reduceReplicate, String.reduceEq, e4, e5, e10, e11, e12, dLin_len, dLin_0, dLin_1, hd0]
          refine DFin.sub (hsub7.trans hB1.sub) (DFin.refl ⟨?_, rfl⟩)
          rw [hfin (hbad (by rw [okLin, hj, decide_eq_false (by omega)]; rfl))]
        · by_cases hd1 : 80 < ls[k].depth
          · simp (disch := omega) only [go_sem, Nat.reduceEqDiff, Nat.reduceAdd, Nat.reduceMul, Nat.reduceSub, Nat.reduceLeDiff, ↓reduceIte, reduceCtorEq, Int.reduceAdd, Int.reduceSub, Int.reduceMul, Int.reduceNeg, Int.reduceToNat, List.reduceReplicate, String.reduceEq, e4, e5, e10, e11, e12, dLin_len, dLin_0, dLin_1, hd0, hd1]
            refine DFin.sub (hsub7.trans hB1.sub) (DFin.refl ⟨?_, rfl⟩)
            rw [hfin (hbad (by rw [okLin, hj, decide_eq_false (show ¬ ls[k].depth ≤ 80 by omega), Bool.and_false]))]
          · have hok : okLin ls[k] = true := by rw [okLin, hj, decide_eq_true (show 0 ≤ ls[k].depth by omega), decide_eq_true (show ls[k].depth ≤ 80 by omega)]; rfl
            obtain ⟨d, hd⟩ : ∃ d : Nat, ls[k].depth = d := ⟨ls[k].depth.toNat, by omega⟩
            have hd80 : d ≤ 80 := by omega
            have hjl : (joinT ls[k].l).length ≤ 3300000 := by
              have := (joinR_len ls[k].l none hj).2
              rw [joinT]; omega
            have hw2 : IntKind.i64.wrap (2 * (d : Int)) = 2 * (d : Int) := by rw [IntKind.wrap_i64]; omega
            have hw3 : IntKind.i64.wrap (2 * (d : Int) + ((joinT ls[k].l).length : Int)) = 2 * (d : Int) + ((joinT ls[k].l).length : Int) := by rw [IntKind.wrap_i64]; omega
            have hwd : IntKind.i64.wrap ((k : Int) + 1) = ((k + 1 : Nat) : Int) := by rw [IntKind.wrap_i64]; omega
            have hfk := take_all2 hf hlt hok
            have hlk := take_any (p := longLin) hlt
            have htk : linesT (ls.take (k + 1)) = linesT (ls.take k) ++ linT ls[k] := take_flat hlt
            have hlt2 : linT ls[k] = List.replicate (2 * d) 32 ++ joinT ls[k].l ++ [10] := by rw [linT, lineX, hd]; rfl
            have hlo : longLin ls[k] = decide (256 < 2 * (d : Int) + ((joinT ls[k].l).length : Int)) := by rw [longLin, hd]
            have hr1 : (List.replicate (2 * d) (32 : UInt8)).length = 2 * d := List.length_replicate
            cases hlg : (ls.take k).any longLin with
            | true =>
              rw [hlg] at e5
              simp (disch := omega) only [go_sem, Nat.reduceEqDiff, Nat.reduceAdd, Nat.reduceMul, Nat.reduceSub, Nat.reduceLeDiff, ↓reduceIte, reduceCtorEq, Int.reduceAdd, Int.reduceSub, Int.reduceMul, Int.reduceNeg, Int.reduceToNat, List.reduceReplicate, String.reduceEq, e4, e5, e10, e11, e12, dLin_len, dLin_0, dLin_1, hd, hd0, hd1, hw2, hw3]
              refine (repeat_spec [32, 32] d (by omega) (by simp only [List.length_cons, List.length_nil]; omega)).mono ?_
              rintro _ H3 ⟨rfl, rfl⟩
              rw [repeat_sp]
              simp (disch := omega) only [go_sem, Nat.reduceEqDiff, Nat.reduceAdd, Nat.reduceMul, Nat.reduceSub, Nat.reduceLeDiff, ↓reduceIte, reduceCtorEq, Int.reduceAdd, Int.reduceSub, Int.reduceMul, Int.reduceNeg, Int.reduceToNat, List.reduceReplicate, String.reduceEq, e4, e5, e10, e11, e12, hr1, List.length_append]
              refine (writeString_spec (List.replicate (2 * d) 32 ++ joinT ls[k].l ++ [10]) hB1 (by simp only [List.length_append, hr1, List.length_singleton]; omega)).mono ?_
              rintro _ H4 ⟨rfl, hB4⟩
              simp (disch := omega) only [go_sem, Nat.reduceEqDiff, Nat.reduceAdd, Nat.reduceMul, Nat.reduceSub, Nat.reduceLeDiff, ↓reduceIte, reduceCtorEq, Int.reduceAdd, Int.reduceSub, Int.reduceMul, Int.reduceNeg, Int.reduceToNat, List.reduceReplicate, String.reduceEq, e4, e5, e10, e11, e12]
              refine ⟨k + 1, _, GhostS.refl _, (hI _ _ _).2 ?_, by omega⟩
              simp (disch := omega) only [go_sem, Nat.reduceEqDiff, Nat.reduceAdd, Nat.reduceMul, Nat.reduceSub, Nat.reduceLeDiff, ↓reduceIte, reduceCtorEq, Int.reduceAdd, Int.reduceSub, Int.reduceMul, Int.reduceNeg, Int.reduceToNat, List.reduceReplicate, String.reduceEq, e4, e5, e10, e11, e12, hwd, hlk, hlg, hlo]
              (repeat' apply And.intro) <;> (try first | rfl | assumption | omega)
              rw [htk, hlt2]
              exact hB4.less hsub7
            | false =>
              rw [hlg] at e5
              simp (disch := omega) only [go_sem, Nat.reduceEqDiff, Nat.reduceAdd, Nat.reduceMul, Nat.reduceSub, Nat.reduceLeDiff, ↓reduceIte, reduceCtorEq, Int.reduceAdd, Int.reduceSub, Int.reduceMul, Int.reduceNeg, Int.reduceToNat, List.reduceReplicate, String.reduceEq, e4, e5, e10, e11, e12, dLin_len, dLin_0, dLin_1, hd, hd0, hd1, hw2, hw3]
              refine (repeat_spec [32, 32] d (by omega) (by simp only [List.length_cons, List.length_nil]; omega)).mono ?_
              rintro _ H3 ⟨rfl, rfl⟩
              rw [repeat_sp]
              simp (disch := omega) only [go_sem, Nat.reduceEqDiff, Nat.reduceAdd, Nat.reduceMul, Nat.reduceSub, Nat.reduceLeDiff, ↓reduceIte, reduceCtorEq, Int.reduceAdd, Int.reduceSub, Int.reduceMul, Int.reduceNeg, Int.reduceToNat, List.reduceReplicate, String.reduceEq, e4, e5, e10, e11, e12, hr1, List.length_append]
              refine (writeString_spec (List.replicate (2 * d) 32 ++ joinT ls[k].l ++ [10]) hB1 (by simp only [List.length_append, hr1, List.length_singleton]; omega)).mono ?_
              rintro _ H4 ⟨rfl, hB4⟩
              simp (disch := omega) only [go_sem, Nat.reduceEqDiff, Nat.reduceAdd, Nat.reduceMul, Nat.reduceSub, Nat.reduceLeDiff, ↓reduceIte, reduceCtorEq, Int.reduceAdd, Int.reduceSub, Int.reduceMul, Int.reduceNeg, Int.reduceToNat, List.reduceReplicate, String.reduceEq, e4, e5, e10, e11, e12]
              refine ⟨k + 1, _, GhostS.refl _, (hI _ _ _).2 ?_, by omega⟩
              simp (disch := omega) only [go_sem, Nat.reduceEqDiff, Nat.reduceAdd, Nat.reduceMul, Nat.reduceSub, Nat.reduceLeDiff, ↓reduceIte, reduceCtorEq, Int.reduceAdd, Int.reduceSub, Int.reduceMul, Int.reduceNeg, Int.reduceToNat, List.reduceReplicate, String.reduceEq, e4, e5, e10, e11, e12, hwd, hlk, hlg, hlo]
              (repeat' apply And.intro) <;> (try first | rfl | assumption | omega)
              rw [htk, hlt2]
              exact hB4.less hsub7
    · have : k = ls.length := by omega
      subst this
      rw [List.take_length] at hf hB e5
      cases hlg : ls.any longLin with
      | true =>
        rw [hlg] at e5
        simp (disch := omega) only [go_sem, Nat.reduceEqDiff, Nat.reduceAdd, Nat.reduceMul, Nat.reduceSub, Nat.reduceLeDiff, ↓reduceIte, reduceCtorEq, Int.reduceAdd, Int.reduceSub, Int.reduceMul, Int.reduceNeg, Int.reduceToNat, List.reduceReplicate, String.reduceEq, e4, e5, e10, e11, e12]
        refine DFin.sub hB.sub (DFin.refl ⟨?_, rfl⟩)
        rw [linesD, hf, hlg]; rfl
      | false =>
        rw [hlg] at e5
        simp (disch := omega) only [go_sem, Nat.reduceEqDiff, Nat.reduceAdd, Nat.reduceMul, Nat.reduceSub, Nat.reduceLeDiff, ↓reduceIte, reduceCtorEq, Int.reduceAdd, Int.reduceSub, Int.reduceMul, Int.reduceNeg, Int.reduceToNat, List.reduceReplicate, String.reduceEq, e4, e5, e10, e11, e12]
        refine (bldLen_spec (G := G) hB).mono ?_
        rintro _ H1 ⟨rfl, rfl⟩
        by_cases hlen : 65536 < (linesT ls).length
        · have hlen' : (65536 : Int) < ((linesT ls).length : Int) := by omega
          simp (disch := omega) only [go_sem, Nat.reduceEqDiff, Nat.reduceAdd, Nat.reduceMul, Nat.reduceSub, Nat.reduceLeDiff, ↓reduceIte, reduceCtorEq, Int.reduceAdd, Int.reduceSub, Int.reduceMul, Int.reduceNeg, Int.reduceToNat, List.reduceReplicate, String.reduceEq, e4, e5, e10, e11, e12, hlen']
          refine DFin.sub hB.sub (DFin.refl ⟨?_, rfl⟩)
          rw [linesD, hf, hlg, decide_eq_true hlen]; rfl
        · have hlen' : ¬ (65536 : Int) < ((linesT ls).length : Int) := by omega
          simp (disch := omega) only [go_sem, Nat.reduceEqDiff, Nat.reduceAdd, Nat.reduceMul, Nat.reduceSub, Nat.reduceLeDiff, ↓reduceIte, reduceCtorEq, Int.reduceAdd, Int.reduceSub, Int.reduceMul, Int.reduceNeg, Int.reduceToNat, List.reduceReplicate, String.reduceEq, e4, e5, e10, e11, e12, hlen']
          refine (string_spec hB (by omega)).mono ?_
          rintro _ H2 ⟨rfl, hs2⟩
          simp (disch := omega) only [go_sem, Nat.reduceEqDiff, Nat.reduceAdd, Nat.reduceMul, Nat.reduceSub, Nat.reduceLeDiff, ↓reduceIte, reduceCtorEq, Int.reduceAdd, Int.reduceSub, Int.reduceMul, Int.reduceNeg, Int.reduceToNat, List.reduceReplicate, String.reduceEq]
          refine DFin.sub hs2 (DFin.refl ⟨?_, rfl⟩)
          rw [linesD, hf, hlg, decide_eq_false hlen]; rfl
end
end Go.Dl

-- Chapter 2: Same; what awake calls.
namespace Go.Dl
open Go Go.Proofs
set_option maxRecDepth 100000

theorem andO_and (a b : Bool) : andO (some a) (some b) = some (a && b) := by cases a <;> rfl
theorem eq_tok (a b : Tok) : dEqT Tryz.prog 6 27 (dTok a) (dTok b) = some (decide (a = b)) := by
  have e : (decide (a = b)) = (decide (a.kind = b.kind) && (decide (a.line = b.line) && (decide (a.text = b.text) && decide (a.n = b.n)))) := by
    cases a; cases b
    simp only [Tok.mk.injEq, Bool.decide_and]
  rw [e]
  simp (disch := omega) only [go_sem, Nat.reduceEqDiff, Nat.reduceAdd, Nat.reduceMul, Nat.reduceSub, Nat.reduceLeDiff, ↓reduceIte, reduceCtorEq, Int.reduceAdd, Int.reduceSub, Int.reduceMul, Int.reduceNeg, Int.reduceToNat, List.reduceReplicate, String.reduceEq, dTok, dEqT, dEqTu, dEqTr, dEqFs, dEqTi, partCells, List.drop_succ_cons, List.drop_zero, List.take_succ_cons, List.take_zero]
  simp only [andO_and, Bool.and_true]
theorem agg_tok : aggB Tryz.prog 27 = some true := by kernel_rfl
theorem guard_tok : Tryz.prog.eqGuardType Tryz.prog.depth 27 = false := by kernel_rfl
def sameT (a b : Tok) : Bool := decide ({ a with line := b.line } = b)
def sameL : List Tok → List Tok → Bool
  | [], [] => true
  | a :: l, b :: m => sameT a b && sameL l m
  | _, _ => false
section
variable {G : Nat → DVal} {H : DHeap}
theorem sameF_spec (G : Nat → DVal) (H : DHeap) (a b : Tok) : DCalls Tryz.prog G 55 [.agg (dTok a), .agg (dTok b)] H (DRet (.bool (sameT a b)) H) := by
  refine dcalls_intro Tryz.func55 Tryz.call55 rfl (by kernel_rfl) ?_
  simp (disch := omega) only [go_sem, Nat.reduceEqDiff, Nat.reduceAdd, Nat.reduceMul, Nat.reduceSub, Nat.reduceLeDiff, ↓reduceIte, reduceCtorEq, Int.reduceAdd, Int.reduceSub, Int.reduceMul, Int.reduceNeg, Int.reduceToNat, List.reduceReplicate, String.reduceEq, DVal.cells]
  intro r2 hr2; dsimp only at hr2
  simp (disch := omega) only [go_sem, Nat.reduceEqDiff, Nat.reduceAdd, Nat.reduceMul, Nat.reduceSub, Nat.reduceLeDiff, ↓reduceIte, reduceCtorEq, Int.reduceAdd, Int.reduceSub, Int.reduceMul, Int.reduceNeg, Int.reduceToNat, List.reduceReplicate, String.reduceEq, DVal.cells]
  intro r3 hr3; dsimp only at hr3
  obtain ⟨m2, m1, hr3'⟩ := upd_eq_none.1 hr3
  have hsp : splice (dTok a) 1 [dI b.line] = dTok { a with line := b.line } := rfl
  simp (disch := omega) only [go_sem, Nat.reduceEqDiff, Nat.reduceAdd, Nat.reduceMul, Nat.reduceSub, Nat.reduceLeDiff, ↓reduceIte, reduceCtorEq, Int.reduceAdd, Int.reduceSub, Int.reduceMul, Int.reduceNeg, Int.reduceToNat, List.reduceReplicate, String.reduceEq, dTok_len, dTok_1, dTok_t4, m1, m2, hsp, agg_eq agg_tok guard_tok (eq_tok { a with line := b.line } b)]
  exact DFin.sub (show Sub H _ from (by repeat (first | exact Sub.refl _ | assumption | refine Sub.up ?_ (by assumption) _))) (DFin.refl ⟨rfl, rfl⟩)
theorem sameL_len : ∀ (l m : List Tok), sameL l m = true → l.length = m.length
  | [], [], _ => rfl
  | [], _ :: _, h => by cases h
  | _ :: _, [], h => by cases h
  | a :: l, b :: m, h => by
    rw [sameL, Bool.and_eq_true] at h
    rw [List.length_cons, List.length_cons, sameL_len l m h.2]
theorem sameL_step : ∀ {l m : List Tok} {k : Nat} (h1 : k < l.length) (h2 : k < m.length), sameL (l.drop k) (m.drop k) = (sameT l[k] m[k] && sameL (l.drop (k + 1)) (m.drop (k + 1))) := fun h1 h2 => by
  rw [List.drop_eq_getElem_cons h1, List.drop_eq_getElem_cons h2, sameL]
theorem sameE_spec (G : Nat → DVal) (H : DHeap) (l m : List Tok) (hl : l.length ≤ 1000000000) : DCalls Tryz.prog G 54 [dToks l, dToks m, .func (.func 55) [] []] H (DRet (.bool (sameL l m)) H) := by
  refine dcalls_intro Tryz.func54 Tryz.call54 rfl (by kernel_rfl) ?_
  by_cases hlen : l.length = m.length
  · have hlen' : (l.length : Int) = (m.length : Int) := by omega
    simp (disch := omega) only [go_sem, Nat.reduceEqDiff, Nat.reduceAdd, Nat.reduceMul, Nat.reduceSub, Nat.reduceLeDiff, ↓reduceIte, reduceCtorEq, Int.reduceAdd, Int.reduceSub, Int.reduceMul, Int.reduceNeg, Int.reduceToNat, List.reduceReplicate, String.reduceEq, dToks, hlen']
    obtain ⟨I, hI⟩ : ∃ I : Nat → (Nat → DVal) → DHeap → Prop, ∀ k env heap, I k env heap ↔ (env 0 = .vslice (l.flatMap dTok) l.length ∧ env 1 = .vslice (m.flatMap dTok) m.length ∧ env 2 = .func (.func 55) [] [] ∧ env 15 = .vslice (l.flatMap dTok) l.length ∧ env 16 = dI m.length ∧ env 17 = dI k ∧ k ≤ l.length ∧ sameL l m = sameL (l.drop k) (m.drop k) ∧ Sub H heap) := ⟨_, fun _ _ _ => Iff.rfl⟩
    refine DLoop.run I (fun k => l.length - k) 0 ((hI _ _ _).2 ?_) ?_
    · simp (disch := omega) only [go_sem, Nat.reduceEqDiff, Nat.reduceAdd, Nat.reduceMul, Nat.reduceSub, Nat.reduceLeDiff, ↓reduceIte, reduceCtorEq, Int.reduceAdd, Int.reduceSub, Int.reduceMul, Int.reduceNeg, Int.reduceToNat, List.reduceReplicate, String.reduceEq]
      (repeat' apply And.intro) <;> (try first | rfl | assumption | omega)
      exact Sub.refl _
    · intro k env heap hi
      obtain ⟨e0, e1, e2, e15, e16, e17, hk, hsm, hsub⟩ := (hI _ _ _).1 hi
      have hfl := flat_len dTok_len l
      have hfm := flat_len dTok_len m
      by_cases hlt : k < l.length
      · have hlt' : (k : Int) < (m.length : Int) := by omega
        have hlt2 : (k : Int) < (l.length : Int) := by omega
        have hkm : k < m.length := by omega
        have hget := flat_el dTok_len l k hlt
        have hgetm := flat_el dTok_len m k hkm
        have hwd : IntKind.i64.wrap ((k : Int) + 1) = ((k + 1 : Nat) : Int) := by rw [IntKind.wrap_i64]; omega
        simp (disch := omega) only [go_sem, Nat.reduceEqDiff, Nat.reduceAdd, Nat.reduceMul, Nat.reduceSub, Nat.reduceLeDiff, ↓reduceIte, reduceCtorEq, Int.reduceAdd, Int.reduceSub, Int.reduceMul, Int.reduceNeg, Int.reduceToNat, List.reduceReplicate, String.reduceEq, e0, e1, e2, e15, e16, e17, hlt', hlt2, hget, hgetm, hfl, hfm, Int.toNat_natCast]
        intro r8 hr8; dsimp only at hr8
        simp (disch := omega) only [go_sem, Nat.reduceEqDiff, Nat.reduceAdd, Nat.reduceMul, Nat.reduceSub, Nat.reduceLeDiff, ↓reduceIte, reduceCtorEq, Int.reduceAdd, Int.reduceSub, Int.reduceMul, Int.reduceNeg, Int.reduceToNat, List.reduceReplicate, String.reduceEq, e0, e1, e2, e15, e16, e17, hlt', hlt2, hget, hgetm, hfl, hfm, Int.toNat_natCast, dTok_len, dTok_t4, dTok_d4, dTok_one, List.append_nil]
        intro r9 hr9; dsimp only at hr9
        obtain ⟨m2, m1, hr9'⟩ := upd_eq_none.1 hr9
        simp (disch := omega) only [go_sem, Nat.reduceEqDiff, Nat.reduceAdd, Nat.reduceMul, Nat.reduceSub, Nat.reduceLeDiff, ↓reduceIte, reduceCtorEq, Int.reduceAdd, Int.reduceSub, Int.reduceMul, Int.reduceNeg, Int.reduceToNat, List.reduceReplicate, String.reduceEq, e0, e1, e2, e15, e16, e17, m1, m2, hget, hgetm, hfl, hfm, Int.toNat_natCast, dTok_len, dTok_t4, dTok_d4, dTok_one, List.append_nil]
        refine (sameF_spec G _ l[k] m[k]).mono ?_
        rintro _ H1 ⟨rfl, rfl⟩
        have hst := sameL_step hlt hkm
        rw [hst] at hsm
        have hs1 := (hsub.new hr8 (some (DObj.cells (dTok l[k]) 27))).new hr9 (some (DObj.cells (dTok m[k]) 27))
        cases hb : sameT l[k] m[k] with
        | true =>
          rw [hb, Bool.true_and] at hsm
          simp (disch := omega) only [go_sem, Nat.reduceEqDiff, Nat.reduceAdd, Nat.reduceMul, Nat.reduceSub, Nat.reduceLeDiff, ↓reduceIte, reduceCtorEq, Int.reduceAdd, Int.reduceSub, Int.reduceMul, Int.reduceNeg, Int.reduceToNat, List.reduceReplicate, String.reduceEq, e0, e1, e2, e15, e16, e17]
          refine ⟨k + 1, _, GhostS.refl _, (hI _ _ _).2 ?_, by omega⟩
          simp (disch := omega) only [go_sem, Nat.reduceEqDiff, Nat.reduceAdd, Nat.reduceMul, Nat.reduceSub, Nat.reduceLeDiff, ↓reduceIte, reduceCtorEq, Int.reduceAdd, Int.reduceSub, Int.reduceMul, Int.reduceNeg, Int.reduceToNat, List.reduceReplicate, String.reduceEq, e0, e1, e2, e15, e16, e17, hwd]
          (repeat' apply And.intro) <;> (try first | rfl | assumption | omega)
        | false =>
          rw [hb, Bool.false_and] at hsm
          simp (disch := omega) only [go_sem, Nat.reduceEqDiff, Nat.reduceAdd, Nat.reduceMul, Nat.reduceSub, Nat.reduceLeDiff, ↓reduceIte, reduceCtorEq, Int.reduceAdd, Int.reduceSub, Int.reduceMul, Int.reduceNeg, Int.reduceToNat, List.reduceReplicate, String.reduceEq, e0, e1, e2, e15, e16, e17]
          exact DFin.sub hs1 (DFin.refl ⟨by rw [hsm], rfl⟩)
      · have : k = l.length := by omega
        subst this
        have hlt' : ¬ (l.length : Int) < (m.length : Int) := by omega
        simp (disch := omega) only [go_sem, Nat.reduceEqDiff, Nat.reduceAdd, Nat.reduceMul, Nat.reduceSub, Nat.reduceLeDiff, ↓reduceIte, reduceCtorEq, Int.reduceAdd, Int.reduceSub, Int.reduceMul, Int.reduceNeg, Int.reduceToNat, List.reduceReplicate, String.reduceEq, e0, e1, e2, e15, e16, e17, hlt']
        refine DFin.sub hsub (DFin.refl ⟨?_, rfl⟩)
        rw [hsm, List.drop_length, hlen, List.drop_length]; rfl
  · have hlen' : ¬ (l.length : Int) = (m.length : Int) := by omega
    simp (disch := omega) only [go_sem, Nat.reduceEqDiff, Nat.reduceAdd, Nat.reduceMul, Nat.reduceSub, Nat.reduceLeDiff, ↓reduceIte, reduceCtorEq, Int.reduceAdd, Int.reduceSub, Int.reduceMul, Int.reduceNeg, Int.reduceToNat, List.reduceReplicate, String.reduceEq, dToks, hlen']
    refine DFin.refl ⟨?_, rfl⟩
    cases h : sameL l m with
    | false => rfl
    | true => exact absurd (sameL_len l m h) hlen
theorem same_spec (G : Nat → DVal) (H : DHeap) (l m : List Tok) (hl : l.length ≤ 1000000000) : DCalls Tryz.prog G 22 [dToks l, dToks m] H (DRet (.bool (sameL l m)) H) := by
  refine dcalls_intro Tryz.func22 Tryz.call22 rfl (by kernel_rfl) ?_
  simp (disch := omega) only [go_sem, Nat.reduceEqDiff, Nat.reduceAdd, Nat.reduceMul, Nat.reduceSub, Nat.reduceLeDiff, ↓reduceIte, reduceCtorEq, Int.reduceAdd, Int.reduceSub, Int.reduceMul, Int.reduceNeg, Int.reduceToNat, List.reduceReplicate, String.reduceEq]
  refine (sameE_spec G _ l m hl).mono ?_
  rintro _ H1 ⟨rfl, rfl⟩
  simp (disch := omega) only [go_sem, Nat.reduceEqDiff, Nat.reduceAdd, Nat.reduceMul, Nat.reduceSub, Nat.reduceLeDiff, ↓reduceIte, reduceCtorEq, Int.reduceAdd, Int.reduceSub, Int.reduceMul, Int.reduceNeg, Int.reduceToNat, List.reduceReplicate, String.reduceEq]
  exact DFin.refl ⟨rfl, rfl⟩
theorem tname_spec (G : Nat → DVal) (H : DHeap) (s : List UInt8) : DCalls Tryz.prog G 53 [.str s] H (DRet (.agg (dTok ⟨1, 0, s, 0⟩)) H) := by
  refine dcalls_intro Tryz.func53 Tryz.call53 rfl (by kernel_rfl) ?_
  simp (disch := omega) only [go_sem, Nat.reduceEqDiff, Nat.reduceAdd, Nat.reduceMul, Nat.reduceSub, Nat.reduceLeDiff, ↓reduceIte, reduceCtorEq, Int.reduceAdd, Int.reduceSub, Int.reduceMul, Int.reduceNeg, Int.reduceToNat, List.reduceReplicate, String.reduceEq]
  intro r hr; dsimp only at hr
  simp (disch := omega) only [go_sem, Nat.reduceEqDiff, Nat.reduceAdd, Nat.reduceMul, Nat.reduceSub, Nat.reduceLeDiff, ↓reduceIte, reduceCtorEq, Int.reduceAdd, Int.reduceSub, Int.reduceMul, Int.reduceNeg, Int.reduceToNat, List.reduceReplicate, String.reduceEq, DVal.cells, List.append_nil]
  exact DFin.dropA r hr (DFin.refl ⟨rfl, rfl⟩)
theorem tsym_spec (G : Nat → DVal) (H : DHeap) (s : List UInt8) : DCalls Tryz.prog G 35 [.str s] H (DRet (.agg (dTok (symT s))) H) := by
  refine dcalls_intro Tryz.func35 Tryz.call35 rfl (by kernel_rfl) ?_
  simp (disch := omega) only [go_sem, Nat.reduceEqDiff, Nat.reduceAdd, Nat.reduceMul, Nat.reduceSub, Nat.reduceLeDiff, ↓reduceIte, reduceCtorEq, Int.reduceAdd, Int.reduceSub, Int.reduceMul, Int.reduceNeg, Int.reduceToNat, List.reduceReplicate, String.reduceEq]
  intro r hr; dsimp only at hr
  simp (disch := omega) only [go_sem, Nat.reduceEqDiff, Nat.reduceAdd, Nat.reduceMul, Nat.reduceSub, Nat.reduceLeDiff, ↓reduceIte, reduceCtorEq, Int.reduceAdd, Int.reduceSub, Int.reduceMul, Int.reduceNeg, Int.reduceToNat, List.reduceReplicate, String.reduceEq, DVal.cells, List.append_nil]
  exact DFin.dropA r hr (DFin.refl ⟨rfl, rfl⟩)
theorem tint_spec (G : Nat → DVal) (H : DHeap) (n : Int) : DCalls Tryz.prog G 34 [dI n] H (DRet (.agg (dTok (intT n))) H) := by
  refine dcalls_intro Tryz.func34 Tryz.call34 rfl (by kernel_rfl) ?_
  simp (disch := omega) only [go_sem, Nat.reduceEqDiff, Nat.reduceAdd, Nat.reduceMul, Nat.reduceSub, Nat.reduceLeDiff, ↓reduceIte, reduceCtorEq, Int.reduceAdd, Int.reduceSub, Int.reduceMul, Int.reduceNeg, Int.reduceToNat, List.reduceReplicate, String.reduceEq]
  intro r hr; dsimp only at hr
  simp (disch := omega) only [go_sem, Nat.reduceEqDiff, Nat.reduceAdd, Nat.reduceMul, Nat.reduceSub, Nat.reduceLeDiff, ↓reduceIte, reduceCtorEq, Int.reduceAdd, Int.reduceSub, Int.reduceMul, Int.reduceNeg, Int.reduceToNat, List.reduceReplicate, String.reduceEq, DVal.cells, List.append_nil]
  exact DFin.dropA r hr (DFin.refl ⟨rfl, rfl⟩)
/-- A text of one line is read as these tokens. -/
def readsL (s : List UInt8) (l : List Tok) : Bool := sameL l (tokensL s).1 && decide (l.length = (tokensL s).1.length) && decide ((tokensL s).2.1 = 0) && decide ((tokensL s).2.2 = 0)
theorem reads_spec (hG : GX G) (H : DHeap) (s : List UInt8) (l : List Tok) (hs : s.length ≤ 1000000000) (hl : l.length ≤ 1000000000) (h : readsL s l = true) : DCalls Tryz.prog G 33 [.str s, dToks l] H (DRet (.bool true) H) := by
  simp only [readsL, Bool.and_eq_true, decide_eq_true_eq] at h
  obtain ⟨⟨⟨h1, h2⟩, h3⟩, h4⟩ := h
  refine dcalls_intro Tryz.func33 Tryz.call33 rfl (by kernel_rfl) ?_
  simp (disch := omega) only [go_sem, Nat.reduceEqDiff, Nat.reduceAdd, Nat.reduceMul, Nat.reduceSub, Nat.reduceLeDiff, ↓reduceIte, reduceCtorEq, Int.reduceAdd, Int.reduceSub, Int.reduceMul, Int.reduceNeg, Int.reduceToNat, List.reduceReplicate, String.reduceEq]
  refine (lexTokens_spec hG _ s hs).mono ?_
  rintro _ H1 ⟨rfl, rfl⟩
  simp (disch := omega) only [go_sem, Nat.reduceEqDiff, Nat.reduceAdd, Nat.reduceMul, Nat.reduceSub, Nat.reduceLeDiff, ↓reduceIte, reduceCtorEq, Int.reduceAdd, Int.reduceSub, Int.reduceMul, Int.reduceNeg, Int.reduceToNat, List.reduceReplicate, String.reduceEq]
  refine (same_spec G _ l (tokensL s).1 hl).mono ?_
  rintro _ H1 ⟨rfl, rfl⟩
  rw [h1, h3, h4]
  have h2' : (l.length : Int) = ((tokensL s).1.length : Int) := by omega
  simp (disch := omega) only [go_sem, Nat.reduceEqDiff, Nat.reduceAdd, Nat.reduceMul, Nat.reduceSub, Nat.reduceLeDiff, ↓reduceIte, reduceCtorEq, Int.reduceAdd, Int.reduceSub, Int.reduceMul, Int.reduceNeg, Int.reduceToNat, List.reduceReplicate, String.reduceEq, dToks, h2']
  exact DFin.refl ⟨rfl, rfl⟩
theorem fails_spec (hG : GX G) (H : DHeap) (s : List UInt8) (at' : Int) (hs : s.length ≤ 1000000000) (h : tokensL s = ([], at', 20)) : DCalls Tryz.prog G 32 [.str s, dI at'] H (DRet (.bool true) H) := by
  refine dcalls_intro Tryz.func32 Tryz.call32 rfl (by kernel_rfl) ?_
  simp (disch := omega) only [go_sem, Nat.reduceEqDiff, Nat.reduceAdd, Nat.reduceMul, Nat.reduceSub, Nat.reduceLeDiff, ↓reduceIte, reduceCtorEq, Int.reduceAdd, Int.reduceSub, Int.reduceMul, Int.reduceNeg, Int.reduceToNat, List.reduceReplicate, String.reduceEq]
  refine (lexTokens_spec hG _ s hs).mono ?_
  rintro _ H1 ⟨rfl, rfl⟩
  rw [h]
  simp (disch := omega) only [go_sem, Nat.reduceEqDiff, Nat.reduceAdd, Nat.reduceMul, Nat.reduceSub, Nat.reduceLeDiff, ↓reduceIte, reduceCtorEq, Int.reduceAdd, Int.reduceSub, Int.reduceMul, Int.reduceNeg, Int.reduceToNat, List.reduceReplicate, String.reduceEq, dToks, List.length_nil]
  exact DFin.refl ⟨rfl, rfl⟩
end
end Go.Dl

-- Chapter 2: awake: the examples.
namespace Go.Dl
open Go Go.Proofs
set_option maxRecDepth 100000

def aw1 : List Tok := [intT 1, symT [46, 46], intT 3, symT [61, 62], ⟨1, 0, [88], 0⟩, symT [39], ⟨1, 0, [70, 105, 114, 115, 116], 0⟩]
def aw3 : List Tok := [⟨1, 0, [88], 0⟩, symT [46], symT [46], ⟨1, 0, [89], 0⟩]
def aw4 : List Tok := [⟨1, 0, [70], 0⟩, symT [40], ⟨1, 0, [65], 0⟩, symT [44], ⟨1, 0, [66], 0⟩, symT [46], ⟨1, 0, [67], 0⟩, symT [41]]
def aw5 : List Lin := [⟨1, [⟨2, 0, [110, 117, 108, 108], 0⟩, symT [59]]⟩]
theorem aw1_ok : readsL [49, 46, 46, 51, 61, 62, 88, 39, 70, 105, 114, 115, 116, 45, 45, 46] aw1 = true := by kernel_rfl
theorem aw2_ok : tokensL [97, 10, 98, 32, 49, 50, 99] = ([], 2, 20) := by kernel_rfl
theorem aw3_ok : textD aw3 = ([88, 46, 32, 46, 89], 0) := by kernel_rfl
theorem aw4_ok : textD aw4 = ([70, 32, 40, 65, 44, 32, 66, 46, 67, 41], 0) := by kernel_rfl
theorem aw5_ok : linesD aw5 = ([32, 32, 110, 117, 108, 108, 59, 10], 0) := by kernel_rfl
theorem aw6_0 : nameB [88, 95, 49] = true := by kernel_rfl
theorem aw6_1 : nameB [98, 101, 103, 105, 110] = false := by kernel_rfl
theorem aw6_2 : nameB [66, 101, 103, 105, 110] = true := by kernel_rfl
theorem aw6_3 : keyB [120, 111, 114] = true := by kernel_rfl
theorem aw6_4 : symB [60, 62] = true := by kernel_rfl
theorem aw6_5 : symB [45, 45] = false := by kernel_rfl
section
variable {G : Nat → DVal} {H : DHeap}
set_option maxHeartbeats 4000000 in
theorem awake_spec (hG : GX G) (H : DHeap) : DCalls Tryz.prog G 19 [] H (DRet (.bool true) H) := by
  refine dcalls_intro Tryz.func19 Tryz.call19 rfl (by kernel_rfl) ?_
  simp (disch := omega) only [go_sem, Nat.reduceEqDiff, Nat.reduceAdd, Nat.reduceMul, Nat.reduceSub, Nat.reduceLeDiff, ↓reduceIte, reduceCtorEq, Int.reduceAdd, Int.reduceSub, Int.reduceMul, Int.reduceNeg, Int.reduceToNat, List.reduceReplicate, String.reduceEq]
  refine (tint_spec G _ 1).mono ?_
  rintro _ H1 ⟨rfl, rfl⟩
  simp (disch := omega) only [go_sem, Nat.reduceEqDiff, Nat.reduceAdd, Nat.reduceMul, Nat.reduceSub, Nat.reduceLeDiff, ↓reduceIte, reduceCtorEq, Int.reduceAdd, Int.reduceSub, Int.reduceMul, Int.reduceNeg, Int.reduceToNat, List.reduceReplicate, String.reduceEq]
  refine (tsym_spec G _ [46, 46]).mono ?_
  rintro _ H1 ⟨rfl, rfl⟩
  simp (disch := omega) only [go_sem, Nat.reduceEqDiff, Nat.reduceAdd, Nat.reduceMul, Nat.reduceSub, Nat.reduceLeDiff, ↓reduceIte, reduceCtorEq, Int.reduceAdd, Int.reduceSub, Int.reduceMul, Int.reduceNeg, Int.reduceToNat, List.reduceReplicate, String.reduceEq]
  refine (tint_spec G _ 3).mono ?_
  rintro _ H1 ⟨rfl, rfl⟩
  simp (disch := omega) only [go_sem, Nat.reduceEqDiff, Nat.reduceAdd, Nat.reduceMul, Nat.reduceSub, Nat.reduceLeDiff, ↓reduceIte, reduceCtorEq, Int.reduceAdd, Int.reduceSub, Int.reduceMul, Int.reduceNeg, Int.reduceToNat, List.reduceReplicate, String.reduceEq]
  refine (tsym_spec G _ [61, 62]).mono ?_
  rintro _ H1 ⟨rfl, rfl⟩
  simp (disch := omega) only [go_sem, Nat.reduceEqDiff, Nat.reduceAdd, Nat.reduceMul, Nat.reduceSub, Nat.reduceLeDiff, ↓reduceIte, reduceCtorEq, Int.reduceAdd, Int.reduceSub, Int.reduceMul, Int.reduceNeg, Int.reduceToNat, List.reduceReplicate, String.reduceEq]
  refine (tname_spec G _ [88]).mono ?_
  rintro _ H1 ⟨rfl, rfl⟩
  simp (disch := omega) only [go_sem, Nat.reduceEqDiff, Nat.reduceAdd, Nat.reduceMul, Nat.reduceSub, Nat.reduceLeDiff, ↓reduceIte, reduceCtorEq, Int.reduceAdd, Int.reduceSub, Int.reduceMul, Int.reduceNeg, Int.reduceToNat, List.reduceReplicate, String.reduceEq]
  refine (tsym_spec G _ [39]).mono ?_
  rintro _ H1 ⟨rfl, rfl⟩
  simp (disch := omega) only [go_sem, Nat.reduceEqDiff, Nat.reduceAdd, Nat.reduceMul, Nat.reduceSub, Nat.reduceLeDiff, ↓reduceIte, reduceCtorEq, Int.reduceAdd, Int.reduceSub, Int.reduceMul, Int.reduceNeg, Int.reduceToNat, List.reduceReplicate, String.reduceEq]
  refine (tname_spec G _ [70, 105, 114, 115, 116]).mono ?_
  rintro _ H1 ⟨rfl, rfl⟩
  simp (disch := omega) only [go_sem, Nat.reduceEqDiff, Nat.reduceAdd, Nat.reduceMul, Nat.reduceSub, Nat.reduceLeDiff, ↓reduceIte, reduceCtorEq, Int.reduceAdd, Int.reduceSub, Int.reduceMul, Int.reduceNeg, Int.reduceToNat, List.reduceReplicate, String.reduceEq]
  change dNewSO _ _ _ _ (some (aw1.flatMap dTok)) _ _
  simp (disch := omega) only [go_sem, Nat.reduceEqDiff, Nat.reduceAdd, Nat.reduceMul, Nat.reduceSub, Nat.reduceLeDiff, ↓reduceIte, reduceCtorEq, Int.reduceAdd, Int.reduceSub, Int.reduceMul, Int.reduceNeg, Int.reduceToNat, List.reduceReplicate, String.reduceEq]
  intro r1 hr1; dsimp only at hr1
  simp (disch := omega) only [go_sem, Nat.reduceEqDiff, Nat.reduceAdd, Nat.reduceMul, Nat.reduceSub, Nat.reduceLeDiff, ↓reduceIte, reduceCtorEq, Int.reduceAdd, Int.reduceSub, Int.reduceMul, Int.reduceNeg, Int.reduceToNat, List.reduceReplicate, String.reduceEq]
  refine DCalls.fzA r1 hr1 ?_
  simp only [fzs, fz, if_pos]
  change DCalls _ _ _ [.str _, dToks aw1] _ _
  refine (reads_spec hG _ _ aw1 (by decide) (by decide) aw1_ok).mono ?_
  rintro _ H2 ⟨rfl, rfl⟩
  simp (disch := omega) only [go_sem, Nat.reduceEqDiff, Nat.reduceAdd, Nat.reduceMul, Nat.reduceSub, Nat.reduceLeDiff, ↓reduceIte, reduceCtorEq, Int.reduceAdd, Int.reduceSub, Int.reduceMul, Int.reduceNeg, Int.reduceToNat, List.reduceReplicate, String.reduceEq]
  refine (fails_spec hG _ _ 2 (by decide) aw2_ok).mono ?_
  rintro _ H2 ⟨rfl, rfl⟩
  simp (disch := omega) only [go_sem, Nat.reduceEqDiff, Nat.reduceAdd, Nat.reduceMul, Nat.reduceSub, Nat.reduceLeDiff, ↓reduceIte, reduceCtorEq, Int.reduceAdd, Int.reduceSub, Int.reduceMul, Int.reduceNeg, Int.reduceToNat, List.reduceReplicate, String.reduceEq]
  refine (tname_spec G _ [88]).mono ?_
  rintro _ H1 ⟨rfl, rfl⟩
  simp (disch := omega) only [go_sem, Nat.reduceEqDiff, Nat.reduceAdd, Nat.reduceMul, Nat.reduceSub, Nat.reduceLeDiff, ↓reduceIte, reduceCtorEq, Int.reduceAdd, Int.reduceSub, Int.reduceMul, Int.reduceNeg, Int.reduceToNat, List.reduceReplicate, String.reduceEq]
  refine (tsym_spec G _ [46]).mono ?_
  rintro _ H1 ⟨rfl, rfl⟩
  simp (disch := omega) only [go_sem, Nat.reduceEqDiff, Nat.reduceAdd, Nat.reduceMul, Nat.reduceSub, Nat.reduceLeDiff, ↓reduceIte, reduceCtorEq, Int.reduceAdd, Int.reduceSub, Int.reduceMul, Int.reduceNeg, Int.reduceToNat, List.reduceReplicate, String.reduceEq]
  refine (tsym_spec G _ [46]).mono ?_
  rintro _ H1 ⟨rfl, rfl⟩
  simp (disch := omega) only [go_sem, Nat.reduceEqDiff, Nat.reduceAdd, Nat.reduceMul, Nat.reduceSub, Nat.reduceLeDiff, ↓reduceIte, reduceCtorEq, Int.reduceAdd, Int.reduceSub, Int.reduceMul, Int.reduceNeg, Int.reduceToNat, List.reduceReplicate, String.reduceEq]
  refine (tname_spec G _ [89]).mono ?_
  rintro _ H1 ⟨rfl, rfl⟩
  simp (disch := omega) only [go_sem, Nat.reduceEqDiff, Nat.reduceAdd, Nat.reduceMul, Nat.reduceSub, Nat.reduceLeDiff, ↓reduceIte, reduceCtorEq, Int.reduceAdd, Int.reduceSub, Int.reduceMul, Int.reduceNeg, Int.reduceToNat, List.reduceReplicate, String.reduceEq]
  change dNewSO _ _ _ _ (some (aw3.flatMap dTok)) _ _
  simp (disch := omega) only [go_sem, Nat.reduceEqDiff, Nat.reduceAdd, Nat.reduceMul, Nat.reduceSub, Nat.reduceLeDiff, ↓reduceIte, reduceCtorEq, Int.reduceAdd, Int.reduceSub, Int.reduceMul, Int.reduceNeg, Int.reduceToNat, List.reduceReplicate, String.reduceEq]
  intro r2 hr2; dsimp only at hr2
  simp (disch := omega) only [go_sem, Nat.reduceEqDiff, Nat.reduceAdd, Nat.reduceMul, Nat.reduceSub, Nat.reduceLeDiff, ↓reduceIte, reduceCtorEq, Int.reduceAdd, Int.reduceSub, Int.reduceMul, Int.reduceNeg, Int.reduceToNat, List.reduceReplicate, String.reduceEq]
  refine DCalls.fzA r2 hr2 ?_
  simp only [fzs, fz, if_pos]
  change DCalls _ _ _ [dToks aw3] _ _
  refine (lexText_spec hG _ aw3 (by decide) (by decide)).mono ?_
  rintro _ H2 ⟨rfl, rfl⟩
  rw [aw3_ok]
  simp (disch := omega) only [go_sem, Nat.reduceEqDiff, Nat.reduceAdd, Nat.reduceMul, Nat.reduceSub, Nat.reduceLeDiff, ↓reduceIte, reduceCtorEq, Int.reduceAdd, Int.reduceSub, Int.reduceMul, Int.reduceNeg, Int.reduceToNat, List.reduceReplicate, String.reduceEq]
  refine (tname_spec G _ [70]).mono ?_
  rintro _ H1 ⟨rfl, rfl⟩
  simp (disch := omega) only [go_sem, Nat.reduceEqDiff, Nat.reduceAdd, Nat.reduceMul, Nat.reduceSub, Nat.reduceLeDiff, ↓reduceIte, reduceCtorEq, Int.reduceAdd, Int.reduceSub, Int.reduceMul, Int.reduceNeg, Int.reduceToNat, List.reduceReplicate, String.reduceEq]
  refine (tsym_spec G _ [40]).mono ?_
  rintro _ H1 ⟨rfl, rfl⟩
  simp (disch := omega) only [go_sem, Nat.reduceEqDiff, Nat.reduceAdd, Nat.reduceMul, Nat.reduceSub, Nat.reduceLeDiff, ↓reduceIte, reduceCtorEq, Int.reduceAdd, Int.reduceSub, Int.reduceMul, Int.reduceNeg, Int.reduceToNat, List.reduceReplicate, String.reduceEq]
  refine (tname_spec G _ [65]).mono ?_
  rintro _ H1 ⟨rfl, rfl⟩
  simp (disch := omega) only [go_sem, Nat.reduceEqDiff, Nat.reduceAdd, Nat.reduceMul, Nat.reduceSub, Nat.reduceLeDiff, ↓reduceIte, reduceCtorEq, Int.reduceAdd, Int.reduceSub, Int.reduceMul, Int.reduceNeg, Int.reduceToNat, List.reduceReplicate, String.reduceEq]
  refine (tsym_spec G _ [44]).mono ?_
  rintro _ H1 ⟨rfl, rfl⟩
  simp (disch := omega) only [go_sem, Nat.reduceEqDiff, Nat.reduceAdd, Nat.reduceMul, Nat.reduceSub, Nat.reduceLeDiff, ↓reduceIte, reduceCtorEq, Int.reduceAdd, Int.reduceSub, Int.reduceMul, Int.reduceNeg, Int.reduceToNat, List.reduceReplicate, String.reduceEq]
  refine (tname_spec G _ [66]).mono ?_
  rintro _ H1 ⟨rfl, rfl⟩
  simp (disch := omega) only [go_sem, Nat.reduceEqDiff, Nat.reduceAdd, Nat.reduceMul, Nat.reduceSub, Nat.reduceLeDiff, ↓reduceIte, reduceCtorEq, Int.reduceAdd, Int.reduceSub, Int.reduceMul, Int.reduceNeg, Int.reduceToNat, List.reduceReplicate, String.reduceEq]
  refine (tsym_spec G _ [46]).mono ?_
  rintro _ H1 ⟨rfl, rfl⟩
  simp (disch := omega) only [go_sem, Nat.reduceEqDiff, Nat.reduceAdd, Nat.reduceMul, Nat.reduceSub, Nat.reduceLeDiff, ↓reduceIte, reduceCtorEq, Int.reduceAdd, Int.reduceSub, Int.reduceMul, Int.reduceNeg, Int.reduceToNat, List.reduceReplicate, String.reduceEq]
  refine (tname_spec G _ [67]).mono ?_
  rintro _ H1 ⟨rfl, rfl⟩
  simp (disch := omega) only [go_sem, Nat.reduceEqDiff, Nat.reduceAdd, Nat.reduceMul, Nat.reduceSub, Nat.reduceLeDiff, ↓reduceIte, reduceCtorEq, Int.reduceAdd, Int.reduceSub, Int.reduceMul, Int.reduceNeg, Int.reduceToNat, List.reduceReplicate, String.reduceEq]
  refine (tsym_spec G _ [41]).mono ?_
  rintro _ H1 ⟨rfl, rfl⟩
  simp (disch := omega) only [go_sem, Nat.reduceEqDiff, Nat.reduceAdd, Nat.reduceMul, Nat.reduceSub, Nat.reduceLeDiff, ↓reduceIte, reduceCtorEq, Int.reduceAdd, Int.reduceSub, Int.reduceMul, Int.reduceNeg, Int.reduceToNat, List.reduceReplicate, String.reduceEq]
  change dNewSO _ _ _ _ (some (aw4.flatMap dTok)) _ _
  simp (disch := omega) only [go_sem, Nat.reduceEqDiff, Nat.reduceAdd, Nat.reduceMul, Nat.reduceSub, Nat.reduceLeDiff, ↓reduceIte, reduceCtorEq, Int.reduceAdd, Int.reduceSub, Int.reduceMul, Int.reduceNeg, Int.reduceToNat, List.reduceReplicate, String.reduceEq]
  intro r3 hr3; dsimp only at hr3
  simp (disch := omega) only [go_sem, Nat.reduceEqDiff, Nat.reduceAdd, Nat.reduceMul, Nat.reduceSub, Nat.reduceLeDiff, ↓reduceIte, reduceCtorEq, Int.reduceAdd, Int.reduceSub, Int.reduceMul, Int.reduceNeg, Int.reduceToNat, List.reduceReplicate, String.reduceEq]
  refine DCalls.fzA r3 hr3 ?_
  simp only [fzs, fz, if_pos]
  change DCalls _ _ _ [dToks aw4] _ _
  refine (lexText_spec hG _ aw4 (by decide) (by decide)).mono ?_
  rintro _ H2 ⟨rfl, rfl⟩
  rw [aw4_ok]
  simp (disch := omega) only [go_sem, Nat.reduceEqDiff, Nat.reduceAdd, Nat.reduceMul, Nat.reduceSub, Nat.reduceLeDiff, ↓reduceIte, reduceCtorEq, Int.reduceAdd, Int.reduceSub, Int.reduceMul, Int.reduceNeg, Int.reduceToNat, List.reduceReplicate, String.reduceEq]
  refine (tsym_spec G _ [59]).mono ?_
  rintro _ H1 ⟨rfl, rfl⟩
  simp (disch := omega) only [go_sem, Nat.reduceEqDiff, Nat.reduceAdd, Nat.reduceMul, Nat.reduceSub, Nat.reduceLeDiff, ↓reduceIte, reduceCtorEq, Int.reduceAdd, Int.reduceSub, Int.reduceMul, Int.reduceNeg, Int.reduceToNat, List.reduceReplicate, String.reduceEq]
  change dNewSO _ _ _ _ (some (([⟨2, 0, [110, 117, 108, 108], 0⟩, symT [59]] : List Tok).flatMap dTok)) _ _
  simp (disch := omega) only [go_sem, Nat.reduceEqDiff, Nat.reduceAdd, Nat.reduceMul, Nat.reduceSub, Nat.reduceLeDiff, ↓reduceIte, reduceCtorEq, Int.reduceAdd, Int.reduceSub, Int.reduceMul, Int.reduceNeg, Int.reduceToNat, List.reduceReplicate, String.reduceEq]
  intro r4 hr4; dsimp only at hr4
  simp (disch := omega) only [go_sem, Nat.reduceEqDiff, Nat.reduceAdd, Nat.reduceMul, Nat.reduceSub, Nat.reduceLeDiff, ↓reduceIte, reduceCtorEq, Int.reduceAdd, Int.reduceSub, Int.reduceMul, Int.reduceNeg, Int.reduceToNat, List.reduceReplicate, String.reduceEq, DVal.cells]
  intro r5 hr5; dsimp only at hr5
  obtain ⟨m2, m1, hr5'⟩ := upd_eq_none.1 hr5
  simp (disch := omega) only [go_sem, Nat.reduceEqDiff, Nat.reduceAdd, Nat.reduceMul, Nat.reduceSub, Nat.reduceLeDiff, ↓reduceIte, reduceCtorEq, Int.reduceAdd, Int.reduceSub, Int.reduceMul, Int.reduceNeg, Int.reduceToNat, List.reduceReplicate, String.reduceEq]
  refine DCalls.fzA r5 hr5 ?_
  refine DCalls.fzA r4 hr4 ?_
  simp only [fzs, fz, if_pos, Nat.reduceMul, List.drop_zero, List.take_succ_cons, List.take_zero]
  change DCalls _ _ _ [.vslice (aw5.flatMap dLin) aw5.length] _ _
  refine (lexLines_spec hG _ aw5 (by decide) (by decide)).mono ?_
  rintro _ H2 ⟨rfl, rfl⟩
  rw [aw5_ok]
  simp (disch := omega) only [go_sem, Nat.reduceEqDiff, Nat.reduceAdd, Nat.reduceMul, Nat.reduceSub, Nat.reduceLeDiff, ↓reduceIte, reduceCtorEq, Int.reduceAdd, Int.reduceSub, Int.reduceMul, Int.reduceNeg, Int.reduceToNat, List.reduceReplicate, String.reduceEq]
  refine (name_spec2 hG _ [88, 95, 49] (by decide)).mono ?_
  rintro _ H2 ⟨rfl, rfl⟩
  rw [aw6_0]
  simp (disch := omega) only [go_sem, Nat.reduceEqDiff, Nat.reduceAdd, Nat.reduceMul, Nat.reduceSub, Nat.reduceLeDiff, ↓reduceIte, reduceCtorEq, Int.reduceAdd, Int.reduceSub, Int.reduceMul, Int.reduceNeg, Int.reduceToNat, List.reduceReplicate, String.reduceEq]
  refine (name_spec2 hG _ [98, 101, 103, 105, 110] (by decide)).mono ?_
  rintro _ H2 ⟨rfl, rfl⟩
  rw [aw6_1]
  simp (disch := omega) only [go_sem, Nat.reduceEqDiff, Nat.reduceAdd, Nat.reduceMul, Nat.reduceSub, Nat.reduceLeDiff, ↓reduceIte, reduceCtorEq, Int.reduceAdd, Int.reduceSub, Int.reduceMul, Int.reduceNeg, Int.reduceToNat, List.reduceReplicate, String.reduceEq]
  refine (name_spec2 hG _ [66, 101, 103, 105, 110] (by decide)).mono ?_
  rintro _ H2 ⟨rfl, rfl⟩
  rw [aw6_2]
  simp (disch := omega) only [go_sem, Nat.reduceEqDiff, Nat.reduceAdd, Nat.reduceMul, Nat.reduceSub, Nat.reduceLeDiff, ↓reduceIte, reduceCtorEq, Int.reduceAdd, Int.reduceSub, Int.reduceMul, Int.reduceNeg, Int.reduceToNat, List.reduceReplicate, String.reduceEq]
  refine (key_spec hG _ [120, 111, 114]).mono ?_
  rintro _ H2 ⟨rfl, rfl⟩
  rw [aw6_3]
  simp (disch := omega) only [go_sem, Nat.reduceEqDiff, Nat.reduceAdd, Nat.reduceMul, Nat.reduceSub, Nat.reduceLeDiff, ↓reduceIte, reduceCtorEq, Int.reduceAdd, Int.reduceSub, Int.reduceMul, Int.reduceNeg, Int.reduceToNat, List.reduceReplicate, String.reduceEq]
  refine (symbolS_spec hG _ [60, 62] (by decide)).mono ?_
  rintro _ H2 ⟨rfl, rfl⟩
  rw [aw6_4]
  simp (disch := omega) only [go_sem, Nat.reduceEqDiff, Nat.reduceAdd, Nat.reduceMul, Nat.reduceSub, Nat.reduceLeDiff, ↓reduceIte, reduceCtorEq, Int.reduceAdd, Int.reduceSub, Int.reduceMul, Int.reduceNeg, Int.reduceToNat, List.reduceReplicate, String.reduceEq]
  refine (symbolS_spec hG _ [45, 45] (by decide)).mono ?_
  rintro _ H2 ⟨rfl, rfl⟩
  rw [aw6_5]
  simp (disch := omega) only [go_sem, Nat.reduceEqDiff, Nat.reduceAdd, Nat.reduceMul, Nat.reduceSub, Nat.reduceLeDiff, ↓reduceIte, reduceCtorEq, Int.reduceAdd, Int.reduceSub, Int.reduceMul, Int.reduceNeg, Int.reduceToNat, List.reduceReplicate, String.reduceEq]
  exact DFin.refl ⟨rfl, rfl⟩
end
end Go.Dl

-- Chapter 2: tokens: the plain laws, part 11: what LexNumbers asks.
namespace Go.Dl
open Go
set_option maxRecDepth 10000

theorem digit_no10 {w : List UInt8} (h : ∀ b ∈ w, digitB b = true) : (10 : UInt8) ∉ w := fun hm => by have := h 10 hm; cases this
theorem repeat_48 : ∀ m : Nat, Lib.repeatL [48] m = List.replicate m 48
  | 0 => rfl
  | m + 1 => by rw [Lib.repeatL, repeat_48 m, List.replicate_succ]; rfl
theorem itoa_nat (n : Nat) : Lib.itoa (n : Int) = Lib.decDigits n := by rw [itoa_pos (by omega), Int.toNat_natCast]
theorem yields_nil : yieldsL [] = [] := rfl
theorem yields_dot : yieldsL [46] = [(symT [46], true)] := by decide +kernel
theorem yields_dots : yieldsL [46, 46] = [(symT [46, 46], true)] := by decide +kernel
theorem symN_plus (r : List UInt8) : symN (43 :: r) = 1 := by
  match r with
  | [] => rfl
  | b :: r =>
    have : ((43 : UInt8), b) ∉ syms2 := fun h => by simp [syms2] at h
    simp only [symN, if_neg this]; rfl
theorem num_fail {w : List UInt8} {c : UInt8} {r : List UInt8} (e : w = c :: r) (hc : digitB c = true) (hw : w.all wordB = true) (hv : intV w = none) (h10 : (10 : UInt8) ∉ w) (hl : w.length ≤ 8000) : tokensL w = ([], 1, 20) := by
  subst e
  exact tokens_fail h10 hl (yields_bad hc hw hv)
section
variable {m n : Nat}
theorem zw (m n : Nat) : (zdig m n).all wordB = true := List.all_eq_true.2 fun x hx => digit_word (zdig_dig m n x hx)
theorem num1 (hn : n ≤ 2147483647) (hl : (zdig m n).length ≤ 10) : yieldsL (zdig m n) = [intT n].map fun t => (t, true) := by
  obtain ⟨c, r, e, _⟩ := zdig_cons m n
  have := yields_num (r := []) (zdig_some hn hl) (by rw [e]; simp) (.inl rfl)
  rw [List.append_nil, yields_nil] at this
  exact this
theorem num2 (hn : n ≤ 2147483647) (hl : (zdig m n).length ≤ 10) : yieldsL (zdig m n ++ [46]) = [intT n, symT [46]].map fun t => (t, true) := by
  obtain ⟨c, r, e, _⟩ := zdig_cons m n
  have := yields_num (r := [46]) (zdig_some hn hl) (by rw [e]; simp) (.inr ⟨46, [], rfl, rfl⟩)
  rw [yields_dot] at this
  exact this
theorem num3 (hn : n ≤ 2147483647) (hl : (zdig m n).length ≤ 10) : yieldsL (43 :: (zdig m n ++ [46, 46])) = [symT [43], intT n, symT [46, 46]].map fun t => (t, true) := by
  obtain ⟨c, r, e, _⟩ := zdig_cons m n
  have h := yields_num (r := [46, 46]) (zdig_some hn hl) (by rw [e]; simp) (.inr ⟨46, [46], rfl, rfl⟩)
  rw [yields_dots] at h
  have hf : firstT (43 :: (zdig m n ++ [46, 46])) = (symT [43], 1) := by
    have hs := symN_plus (zdig m n ++ [46, 46])
    show (Tok.mk 4 0 ((43 :: (zdig m n ++ [46, 46])).take (symN (43 :: (zdig m n ++ [46, 46])))) 0, symN (43 :: (zdig m n ++ [46, 46]))) = _
    rw [hs]; rfl
  rw [yields_step (by decide) (com_ne _ (by decide)), hf]
  dsimp only
  rw [if_neg (by decide), List.drop_succ_cons, List.drop_zero, h]; rfl
theorem bad_all {x : UInt8} (hx : wordB x = true) : (zdig m n ++ [x]).all wordB = true := by
  rw [List.all_append, zw]; simp [hx]
theorem num_tail {x : UInt8} (hx : wordB x = true) (hd : digitB x = false) (hl : (zdig m n).length ≤ 10) : tokensL (zdig m n ++ [x]) = ([], 1, 20) := by
  obtain ⟨c, r, e, hc⟩ := zdig_cons m n
  refine num_fail (c := c) (r := r ++ [x]) (by rw [e]; rfl) hc (bad_all hx) (bad_tail hd) ?_ (by simp; omega)
  intro h
  rcases List.mem_append.1 h with h | h
  · exact digit_no10 (zdig_dig m n) h
  · rw [List.mem_singleton] at h; subst h; cases hx
theorem num_long (h : 2147483647 < n ∨ 10 < (zdig m n).length) (hl : (zdig m n).length ≤ 8000) : tokensL (zdig m n) = ([], 1, 20) := by
  obtain ⟨c, r, e, hc⟩ := zdig_cons m n
  exact num_fail e hc (zw m n) (zdig_none h) (digit_no10 (zdig_dig m n)) hl
end
end Go.Dl

-- Chapter 2: LexNumbers.
namespace Go.Dl
open Go Go.Proofs
set_option maxRecDepth 100000

theorem sameL_line : ∀ l : List Tok, sameL l (l.map fun t => { t with line := 1 }) = true
  | [] => rfl
  | t :: l => by
    rw [List.map_cons, sameL, sameL_line l, Bool.and_true]
    exact decide_eq_true rfl
theorem reads_good {s : List UInt8} {l : List Tok} (h10 : (10 : UInt8) ∉ s) (hs : s.length ≤ 8000) (hy : yieldsL s = l.map fun t => (t, true)) : readsL s l = true := by
  rw [readsL, tokens_good h10 hs hy]
  simp [sameL_line]
section
variable {G : Nat → DVal} {H : DHeap}
set_option maxHeartbeats 4000000 in
theorem lexNumbers_spec (hG : GX G) (H : DHeap) (v z : Nat) (hv : v < 4294967296) (hz : z < 256) : DCalls Tryz.prog G 7 [.int .u32 v, .int .u8 z] H (DRet (.bool true) H) := by
  obtain ⟨n, hn1, r1⟩ : ∃ n : Nat, n < 2147483648 ∧ ∀ _ : Unit, (v : Int).tmod 2147483648 = (n : Int) := ⟨v % 2147483648, by omega, fun _ => by rw [Int.tmod_eq_emod_of_nonneg (by omega)]; omega⟩
  obtain ⟨m, hm1, r2⟩ : ∃ m : Nat, m < 11 ∧ ∀ _ : Unit, (z : Int).tmod 11 = (m : Int) := ⟨z % 11, by omega, fun _ => by rw [Int.tmod_eq_emod_of_nonneg (by omega)]; omega⟩
  have w1 : IntKind.i64.wrap (n : Int) = (n : Int) := by rw [IntKind.wrap_i64]; omega
  have w2 : IntKind.i64.wrap (m : Int) = (m : Int) := by rw [IntKind.wrap_i64]; omega
  have w3 : IntKind.i64.wrap ((n : Int) + 2147483648) = ((n + 2147483648 : Nat) : Int) := by rw [IntKind.wrap_i64]; omega
  have hi : Lib.itoa (n : Int) = Lib.decDigits n := itoa_nat n
  have hi2 : Lib.itoa ((n + 2147483648 : Nat) : Int) = zdig 0 (n + 2147483648) := by rw [itoa_nat, zdig, List.replicate_zero, List.nil_append]
  have hzl := zdig_len m n (by omega)
  have hzl2 := zdig_len 0 (n + 2147483648) (by omega)
  have hcat : List.replicate m 48 ++ Lib.decDigits n = zdig m n := rfl
  refine dcalls_intro Tryz.func7 Tryz.call7 rfl (by kernel_rfl) ?_
  simp (disch := omega) only [go_sem, Nat.reduceEqDiff, Nat.reduceAdd, Nat.reduceMul, Nat.reduceSub, Nat.reduceLeDiff, ↓reduceIte, reduceCtorEq, Int.reduceAdd, Int.reduceSub, Int.reduceMul, Int.reduceNeg, Int.reduceToNat, List.reduceReplicate, String.reduceEq, r1 (), r2 (), w1, w2]
  refine (repeat_spec [48] m (by omega) (by simp only [List.length_cons, List.length_nil]; omega)).mono ?_
  rintro _ H1 ⟨rfl, rfl⟩
  rw [repeat_48]
  simp (disch := omega) only [go_sem, Nat.reduceEqDiff, Nat.reduceAdd, Nat.reduceMul, Nat.reduceSub, Nat.reduceLeDiff, ↓reduceIte, reduceCtorEq, Int.reduceAdd, Int.reduceSub, Int.reduceMul, Int.reduceNeg, Int.reduceToNat, List.reduceReplicate, String.reduceEq, r1 (), r2 (), w1, w2]
  refine (formatInt_spec hG.pow (n : Int) ⟨by omega, by omega⟩).mono ?_
  rintro _ H1 ⟨rfl, rfl⟩
  rw [hi]
  have hrl : (List.replicate m (48 : UInt8)).length = m := List.length_replicate
  have hdl : (Lib.decDigits n).length ≤ 10 := by
    have := zdig_len 0 n (by omega)
    simpa [zdig] using this
  simp (disch := omega) only [go_sem, Nat.reduceEqDiff, Nat.reduceAdd, Nat.reduceMul, Nat.reduceSub, Nat.reduceLeDiff, ↓reduceIte, reduceCtorEq, Int.reduceAdd, Int.reduceSub, Int.reduceMul, Int.reduceNeg, Int.reduceToNat, List.reduceReplicate, String.reduceEq, hrl, hcat]
  generalize hS : zdig m n = S at hzl
  by_cases hl : 10 < S.length
  · have hl' : (10 : Int) < (S.length : Int) := by omega
    simp (disch := omega) only [go_sem, Nat.reduceEqDiff, Nat.reduceAdd, Nat.reduceMul, Nat.reduceSub, Nat.reduceLeDiff, ↓reduceIte, reduceCtorEq, Int.reduceAdd, Int.reduceSub, Int.reduceMul, Int.reduceNeg, Int.reduceToNat, List.reduceReplicate, String.reduceEq, hl']
    refine (fails_spec hG _ S 1 (by omega) (by rw [← hS]; exact num_long (.inr (by rw [hS]; exact hl)) (by rw [hS]; omega))).mono ?_
    rintro _ H1 ⟨rfl, rfl⟩
    simp (disch := omega) only [go_sem, Nat.reduceEqDiff, Nat.reduceAdd, Nat.reduceMul, Nat.reduceSub, Nat.reduceLeDiff, ↓reduceIte, reduceCtorEq, Int.reduceAdd, Int.reduceSub, Int.reduceMul, Int.reduceNeg, Int.reduceToNat, List.reduceReplicate, String.reduceEq]
    refine (awake_spec hG _).mono ?_
    rintro _ H1 ⟨rfl, rfl⟩
    simp (disch := omega) only [go_sem, Nat.reduceEqDiff, Nat.reduceAdd, Nat.reduceMul, Nat.reduceSub, Nat.reduceLeDiff, ↓reduceIte, reduceCtorEq, Int.reduceAdd, Int.reduceSub, Int.reduceMul, Int.reduceNeg, Int.reduceToNat, List.reduceReplicate, String.reduceEq]
    exact DFin.refl ⟨rfl, rfl⟩
  · have hl' : ¬ (10 : Int) < (S.length : Int) := by omega
    have hS10 : (zdig m n).length ≤ 10 := by rw [hS]; omega
    have h10 : (10 : UInt8) ∉ S := by rw [← hS]; exact digit_no10 (zdig_dig m n)
    have q1 : readsL S [intT n] = true := reads_good h10 (by omega) (by rw [← hS]; exact num1 (by omega) hS10)
    have q2 : readsL (S ++ [46]) [intT n, symT [46]] = true := reads_good (by simp [h10]) (by simp; omega) (by rw [← hS]; exact num2 (by omega) hS10)
    have q3 : readsL (43 :: (S ++ [46, 46])) [symT [43], intT n, symT [46, 46]] = true := reads_good (by simp [h10]) (by simp; omega) (by rw [← hS]; exact num3 (by omega) hS10)
    simp (disch := omega) only [go_sem, Nat.reduceEqDiff, Nat.reduceAdd, Nat.reduceMul, Nat.reduceSub, Nat.reduceLeDiff, ↓reduceIte, reduceCtorEq, Int.reduceAdd, Int.reduceSub, Int.reduceMul, Int.reduceNeg, Int.reduceToNat, List.reduceReplicate, String.reduceEq, hl']
    refine (tint_spec G _ (n : Int)).mono ?_
    rintro _ H1 ⟨rfl, rfl⟩
    simp (disch := omega) only [go_sem, Nat.reduceEqDiff, Nat.reduceAdd, Nat.reduceMul, Nat.reduceSub, Nat.reduceLeDiff, ↓reduceIte, reduceCtorEq, Int.reduceAdd, Int.reduceSub, Int.reduceMul, Int.reduceNeg, Int.reduceToNat, List.reduceReplicate, String.reduceEq]
    change dNewSO _ _ _ _ (some (([intT n] : List Tok).flatMap dTok)) _ _
    simp (disch := omega) only [go_sem, Nat.reduceEqDiff, Nat.reduceAdd, Nat.reduceMul, Nat.reduceSub, Nat.reduceLeDiff, ↓reduceIte, reduceCtorEq, Int.reduceAdd, Int.reduceSub, Int.reduceMul, Int.reduceNeg, Int.reduceToNat, List.reduceReplicate, String.reduceEq]
    intro ra hra; dsimp only at hra
    simp (disch := omega) only [go_sem, Nat.reduceEqDiff, Nat.reduceAdd, Nat.reduceMul, Nat.reduceSub, Nat.reduceLeDiff, ↓reduceIte, reduceCtorEq, Int.reduceAdd, Int.reduceSub, Int.reduceMul, Int.reduceNeg, Int.reduceToNat, List.reduceReplicate, String.reduceEq]
    refine DCalls.fzA ra hra ?_
    simp only [fzs, fz, if_pos]
    change DCalls _ _ _ [.str _, dToks [intT n]] _ _
    refine (reads_spec hG _ S [intT n] (by omega) (by simp) q1).mono ?_
    rintro _ H2 ⟨rfl, rfl⟩
    have hS1 : S.length + 1 ≤ 9223372036854775807 := by omega
    have hS2 : S.length + 2 ≤ 9223372036854775807 := by omega
    simp (disch := omega) only [go_sem, Nat.reduceEqDiff, Nat.reduceAdd, Nat.reduceMul, Nat.reduceSub, Nat.reduceLeDiff, ↓reduceIte, reduceCtorEq, Int.reduceAdd, Int.reduceSub, Int.reduceMul, Int.reduceNeg, Int.reduceToNat, List.reduceReplicate, String.reduceEq, List.length_cons, List.length_nil]
    refine (tint_spec G _ (n : Int)).mono ?_
    rintro _ H2 ⟨rfl, rfl⟩
    simp (disch := omega) only [go_sem, Nat.reduceEqDiff, Nat.reduceAdd, Nat.reduceMul, Nat.reduceSub, Nat.reduceLeDiff, ↓reduceIte, reduceCtorEq, Int.reduceAdd, Int.reduceSub, Int.reduceMul, Int.reduceNeg, Int.reduceToNat, List.reduceReplicate, String.reduceEq]
    refine (tsym_spec G _ [46]).mono ?_
    rintro _ H2 ⟨rfl, rfl⟩
    simp (disch := omega) only [go_sem, Nat.reduceEqDiff, Nat.reduceAdd, Nat.reduceMul, Nat.reduceSub, Nat.reduceLeDiff, ↓reduceIte, reduceCtorEq, Int.reduceAdd, Int.reduceSub, Int.reduceMul, Int.reduceNeg, Int.reduceToNat, List.reduceReplicate, String.reduceEq]
    change dNewSO _ _ _ _ (some (([intT n, symT [46]] : List Tok).flatMap dTok)) _ _
    simp (disch := omega) only [go_sem, Nat.reduceEqDiff, Nat.reduceAdd, Nat.reduceMul, Nat.reduceSub, Nat.reduceLeDiff, ↓reduceIte, reduceCtorEq, Int.reduceAdd, Int.reduceSub, Int.reduceMul, Int.reduceNeg, Int.reduceToNat, List.reduceReplicate, String.reduceEq]
    intro rb hrb; dsimp only at hrb
    simp (disch := omega) only [go_sem, Nat.reduceEqDiff, Nat.reduceAdd, Nat.reduceMul, Nat.reduceSub, Nat.reduceLeDiff, ↓reduceIte, reduceCtorEq, Int.reduceAdd, Int.reduceSub, Int.reduceMul, Int.reduceNeg, Int.reduceToNat, List.reduceReplicate, String.reduceEq]
    refine DCalls.fzA rb hrb ?_
    simp only [fzs, fz, if_pos]
    change DCalls _ _ _ [.str _, dToks [intT n, symT [46]]] _ _
    refine (reads_spec hG _ (S ++ [46]) [intT n, symT [46]] (by simp; omega) (by simp) q2).mono ?_
    rintro _ H2 ⟨rfl, rfl⟩
    simp (disch := omega) only [go_sem, Nat.reduceEqDiff, Nat.reduceAdd, Nat.reduceMul, Nat.reduceSub, Nat.reduceLeDiff, ↓reduceIte, reduceCtorEq, Int.reduceAdd, Int.reduceSub, Int.reduceMul, Int.reduceNeg, Int.reduceToNat, List.reduceReplicate, String.reduceEq, List.length_cons, List.length_nil, List.length_append, List.cons_append, List.nil_append]
    refine (tsym_spec G _ [43]).mono ?_
    rintro _ H2 ⟨rfl, rfl⟩
    simp (disch := omega) only [go_sem, Nat.reduceEqDiff, Nat.reduceAdd, Nat.reduceMul, Nat.reduceSub, Nat.reduceLeDiff, ↓reduceIte, reduceCtorEq, Int.reduceAdd, Int.reduceSub, Int.reduceMul, Int.reduceNeg, Int.reduceToNat, List.reduceReplicate, String.reduceEq]
    refine (tint_spec G _ (n : Int)).mono ?_
    rintro _ H2 ⟨rfl, rfl⟩
    simp (disch := omega) only [go_sem, Nat.reduceEqDiff, Nat.reduceAdd, Nat.reduceMul, Nat.reduceSub, Nat.reduceLeDiff, ↓reduceIte, reduceCtorEq, Int.reduceAdd, Int.reduceSub, Int.reduceMul, Int.reduceNeg, Int.reduceToNat, List.reduceReplicate, String.reduceEq]
    refine (tsym_spec G _ [46, 46]).mono ?_
    rintro _ H2 ⟨rfl, rfl⟩
    simp (disch := omega) only [go_sem, Nat.reduceEqDiff, Nat.reduceAdd, Nat.reduceMul, Nat.reduceSub, Nat.reduceLeDiff, ↓reduceIte, reduceCtorEq, Int.reduceAdd, Int.reduceSub, Int.reduceMul, Int.reduceNeg, Int.reduceToNat, List.reduceReplicate, String.reduceEq]
    change dNewSO _ _ _ _ (some (([symT [43], intT n, symT [46, 46]] : List Tok).flatMap dTok)) _ _
    simp (disch := omega) only [go_sem, Nat.reduceEqDiff, Nat.reduceAdd, Nat.reduceMul, Nat.reduceSub, Nat.reduceLeDiff, ↓reduceIte, reduceCtorEq, Int.reduceAdd, Int.reduceSub, Int.reduceMul, Int.reduceNeg, Int.reduceToNat, List.reduceReplicate, String.reduceEq]
    intro rc hrc; dsimp only at hrc
    simp (disch := omega) only [go_sem, Nat.reduceEqDiff, Nat.reduceAdd, Nat.reduceMul, Nat.reduceSub, Nat.reduceLeDiff, ↓reduceIte, reduceCtorEq, Int.reduceAdd, Int.reduceSub, Int.reduceMul, Int.reduceNeg, Int.reduceToNat, List.reduceReplicate, String.reduceEq]
    refine DCalls.fzA rc hrc ?_
    simp only [fzs, fz, if_pos]
    change DCalls _ _ _ [.str _, dToks [symT [43], intT n, symT [46, 46]]] _ _
    refine (reads_spec hG _ (43 :: (S ++ [46, 46])) [symT [43], intT n, symT [46, 46]] (by simp; omega) (by simp) q3).mono ?_
    rintro _ H2 ⟨rfl, rfl⟩
    simp (disch := omega) only [go_sem, Nat.reduceEqDiff, Nat.reduceAdd, Nat.reduceMul, Nat.reduceSub, Nat.reduceLeDiff, ↓reduceIte, reduceCtorEq, Int.reduceAdd, Int.reduceSub, Int.reduceMul, Int.reduceNeg, Int.reduceToNat, List.reduceReplicate, String.reduceEq, List.length_cons, List.length_nil, List.length_append]
    refine (fails_spec hG _ (S ++ [95]) 1 (by simp; omega) (by rw [← hS]; exact num_tail rfl rfl hS10)).mono ?_
    rintro _ H2 ⟨rfl, rfl⟩
    simp (disch := omega) only [go_sem, Nat.reduceEqDiff, Nat.reduceAdd, Nat.reduceMul, Nat.reduceSub, Nat.reduceLeDiff, ↓reduceIte, reduceCtorEq, Int.reduceAdd, Int.reduceSub, Int.reduceMul, Int.reduceNeg, Int.reduceToNat, List.reduceReplicate, String.reduceEq, List.length_cons, List.length_nil, List.length_append]
    refine (fails_spec hG _ (S ++ [120]) 1 (by simp; omega) (by rw [← hS]; exact num_tail rfl rfl hS10)).mono ?_
    rintro _ H2 ⟨rfl, rfl⟩
    simp (disch := omega) only [go_sem, Nat.reduceEqDiff, Nat.reduceAdd, Nat.reduceMul, Nat.reduceSub, Nat.reduceLeDiff, ↓reduceIte, reduceCtorEq, Int.reduceAdd, Int.reduceSub, Int.reduceMul, Int.reduceNeg, Int.reduceToNat, List.reduceReplicate, String.reduceEq, w3]
    refine (formatInt_spec hG.pow ((n + 2147483648 : Nat) : Int) ⟨by omega, by omega⟩).mono ?_
    rintro _ H2 ⟨rfl, rfl⟩
    rw [hi2]
    simp (disch := omega) only [go_sem, Nat.reduceEqDiff, Nat.reduceAdd, Nat.reduceMul, Nat.reduceSub, Nat.reduceLeDiff, ↓reduceIte, reduceCtorEq, Int.reduceAdd, Int.reduceSub, Int.reduceMul, Int.reduceNeg, Int.reduceToNat, List.reduceReplicate, String.reduceEq]
    refine (fails_spec hG _ (zdig 0 (n + 2147483648)) 1 (by omega) (num_long (.inl (by omega)) (by omega))).mono ?_
    rintro _ H2 ⟨rfl, rfl⟩
    simp (disch := omega) only [go_sem, Nat.reduceEqDiff, Nat.reduceAdd, Nat.reduceMul, Nat.reduceSub, Nat.reduceLeDiff, ↓reduceIte, reduceCtorEq, Int.reduceAdd, Int.reduceSub, Int.reduceMul, Int.reduceNeg, Int.reduceToNat, List.reduceReplicate, String.reduceEq]
    refine (awake_spec hG _).mono ?_
    rintro _ H2 ⟨rfl, rfl⟩
    simp (disch := omega) only [go_sem, Nat.reduceEqDiff, Nat.reduceAdd, Nat.reduceMul, Nat.reduceSub, Nat.reduceLeDiff, ↓reduceIte, reduceCtorEq, Int.reduceAdd, Int.reduceSub, Int.reduceMul, Int.reduceNeg, Int.reduceToNat, List.reduceReplicate, String.reduceEq]
    exact DFin.refl ⟨rfl, rfl⟩
end
end Go.Dl

-- Chapter 2: the reading of the package's variables.
namespace Go.Dl
open Go Go.RowKit Go.Proofs Go.Proofs.YtojpnjngdiimhaaGreatDoor
set_option maxRecDepth 100000

theorem laidOut : laidOutB Tryz.prog = true := by kernel_rfl
theorem csize_shaped {P : Program} {w : World} {g : Nat} {t : TypeId} {zero : Array Value} (h : w.ShapedOpen P) (hg : g < P.globals.size)
    (h0 : ((begin P (fun _ _ => 0) default).world.heap[g]?).bind Obj.row? = some (zero, t)) : csize w.heap[g]? = some zero.size := by
  obtain ⟨cs, hh, hs, _⟩ := h.1 g zero t hg h0
  rw [hh]; simp [csize, hs]
theorem laid_exact {P : Program} {w : World} {laid : List (String × DataW Unit)} {n : String} {d : DataW Unit} {g : Nat} (hl : laidOutB P = true) (h : laidMet P laid w) (hm : (n, d) ∈ laid) (hd : litsB d = true) (hg : P.globalNamed n = some g)
    (hgt : isVar P (((P.globals[g]?).map (·.type)).getD 0) = true) : csize w.heap[g]? = some (litCells d).length := by
  obtain ⟨g', t, cs, fuel, p, h1, h2, h3, h4, _⟩ := laid_at h hm
  rw [hg] at h1; cases h1
  rw [h2] at hgt
  have hc := trod_lits hl fuel t cs.toList d p hgt hd h4
  unfold World.var? at h3
  rw [hg] at h3
  simp only [Option.bind_some] at h3
  split at h3
  · rename_i c t' fz ho
    cases h3
    rw [ho]
    simp only [csize, Option.some.injEq]
    rw [← hc, Array.length_toList]
  · cases h3
theorem ofVals_length : ∀ l : List Value, (ofVals l).length = l.length
  | [] => rfl
  | _ :: l => by simp [ofVals, ofVals_length l]

theorem e_pow : ofVals (litCells Rows.laid_internal_strconv_uint64pow10) = dPw := by kernel_rfl
theorem e_space : ofVals (litCells Rows.laid_strings_asciiSpace) = Lib.asciiSpaceTab.map fun z => DVal.int .u8 z := by kernel_rfl

/-- The variables that all rows of this seat list. -/
theorem gsome {laid : List (String × DataW Unit)} {W : World} (hL : laidMetH Tryz.prog laid W) (hs : W.ShapedOpen Tryz.prog) (hh : (laid.filter fun x => x.2.handleName?.isSome) = [])
    (m2 : ("internal/strconv.uint64pow10", Rows.laid_internal_strconv_uint64pow10) ∈ laid)
    (m3 : ("strconv.ErrSyntax", Rows.laid_strconv_ErrSyntax) ∈ laid) (m4 : ("strconv.ErrRange", Rows.laid_strconv_ErrRange) ∈ laid)
    (g2 : Nat) (d2 : DataW Unit) (n2 : String) (m5 : (n2, d2) ∈ laid) (l2 : litsB d2 = true) (hn2 : Tryz.prog.globalNamed n2 = some g2) (v2 : isVar Tryz.prog (((Tryz.prog.globals[g2]?).map (·.type)).getD 0) = true)
    (ne : g2 ≠ 2 ∧ g2 ≠ 0 ∧ g2 ≠ 8 ∧ g2 ≠ 9) :
    ∃ G, (G 2 = .vptr dPw 0 ∧ GT G ∧ G g2 = .vptr (ofVals (litCells d2)) 0) ∧ GOk G W (fun _ => none) := by
  have hL' : laidMet Tryz.prog laid W := by
    unfold laidMetH at hL
    rw [hh] at hL
    exact hL
  have r2 := laid_rel laidOut hL' m2 (by kernel_rfl) (show Tryz.prog.globalNamed "internal/strconv.uint64pow10" = some 2 by kernel_rfl) (by kernel_rfl)
  have x2 := laid_exact laidOut hL' m2 (by kernel_rfl) (show Tryz.prog.globalNamed "internal/strconv.uint64pow10" = some 2 by kernel_rfl) (by kernel_rfl)
  have r5 := laid_rel laidOut hL' m5 l2 hn2 v2
  have x5 := laid_exact laidOut hL' m5 l2 hn2 v2
  obtain ⟨t3, a3, r3⟩ := laid_err hL' m3 (show Tryz.prog.globalNamed "strconv.ErrSyntax" = some 8 by kernel_rfl)
  obtain ⟨t4, a4, r4⟩ := laid_err hL' m4 (show Tryz.prog.globalNamed "strconv.ErrRange" = some 9 by kernel_rfl)
  have x3 : csize W.heap[8]? = some 1 := csize_shaped (t := 76) (zero := #[.nilIface]) hs (of_decide_eq_true (by kernel_rfl)) (by kernel_rfl)
  have x4 : csize W.heap[9]? = some 1 := csize_shaped (t := 76) (zero := #[.nilIface]) hs (of_decide_eq_true (by kernel_rfl)) (by kernel_rfl)
  have x6 : csize W.heap[0]? = some 1 := csize_shaped (t := 3) (zero := #[.int .i64 0]) hs (of_decide_eq_true (by kernel_rfl)) (by kernel_rfl)
  obtain ⟨m, hm⟩ : ∃ m, W.cell? ⟨0, 0, none⟩ = some (.int .i64 m) := cell_of_shapedOpen_int (t := 3) (zero := #[.int .i64 0]) hs (of_decide_eq_true (by kernel_rfl)) (by kernel_rfl) rfl (by kernel_rfl) (by kernel_rfl) Tryz.underlying3
  rw [e_pow] at r2
  obtain ⟨n2', n3, n4, n5⟩ := ne
  refine ⟨fun g => if g = g2 then .vptr (ofVals (litCells d2)) 0 else if g = 2 then .vptr dPw 0 else if g = 8 then .vptr [.iface t3 (.raw (.pointer (some a3)))] 0 else if g = 9 then .vptr [.iface t4 (.raw (.pointer (some a4)))] 0 else if g = 0 then .vptr [.int .i64 m] 0 else .optr g 0,
    ⟨by simp [n2'.symm], ⟨⟨m, by simp [n3.symm]⟩, ⟨t3, .raw (.pointer (some a3)), by simp [n4.symm]⟩, ⟨t4, .raw (.pointer (some a4)), by simp [n5.symm]⟩⟩, by simp⟩, ⟨fun g => ?_, fun g cs e => ?_⟩⟩
  · show Rel W _ (if g = g2 then _ else _) _
    split
    · rename_i e; subst e; exact r5
    split
    · rename_i e; subst e; exact r2
    split
    · rename_i e; subst e; exact r3
    split
    · rename_i e; subst e; exact r4
    split
    · rename_i e; subst e
      simp only [Rel, RelL]
      refine ⟨0, 0, [.int .i64 m], rfl, .inr ⟨rfl, fun i x hx => ?_⟩, _, _, rfl, rfl, rfl⟩
      cases i with
      | zero => simp at hx; subst hx; exact hm
      | succ i => simp at hx
    · simp [Rel]
  · change (if g = g2 then _ else _) = _ at e
    split at e
    · rename_i e'; subst e'; cases e; rw [x5, ofVals_length]
    split at e
    · rename_i e'; subst e'; cases e; rw [x2, ← e_pow, ofVals_length]
    split at e
    · rename_i e'; subst e'; cases e; exact x3
    split at e
    · rename_i e'; subst e'; cases e; exact x4
    split at e
    · rename_i e'; subst e'; cases e; exact x6
    · cases e
section
variable {H : Type} {w : World}
theorem allG_all {α : Type} {g : α → DataW H → Prop} {p : α → Prop} (hp : ∀ x d, g x d → p x) : ∀ {xs : List α} {ds : List (DataW H)}, AllG g xs ds → ∀ x ∈ xs, p x
  | [], _, _, x, hx => by cases hx
  | _ :: _, [], h, _, _ => h.elim
  | y :: xs, d :: ds, h, x, hx => by
    rcases List.mem_cons.1 hx with rfl | hx
    · exact hp _ _ h.1
    · exact allG_all hp h.2 x hx
theorem slG_all {α : Type} {g : α → DataW H → Prop} {p : α → Prop} (hp : ∀ x d, g x d → p x) {xs : List α} {d : DataW H} (h : SlG g xs d) : ∀ x ∈ xs, p x := by
  rcases h with ⟨rfl, rfl⟩ | ⟨es, sp, rfl, _, h⟩
  · intro x hx; cases hx
  · exact allG_all hp h
end
noncomputable def putV (h : Array Obj) (g : Nat) (cs : Array Value) : Array Obj := h.modify g fun
  | .cells _ t frozen => .cells cs t frozen
  | o => o
theorem gx_of {laid : List (String × DataW Unit)} {W : World} (hL : laidMetH Tryz.prog laid W) (hs : W.ShapedOpen Tryz.prog) (hh : (laid.filter fun x => x.2.handleName?.isSome) = [])
    (m2 : ("internal/strconv.uint64pow10", Rows.laid_internal_strconv_uint64pow10) ∈ laid)
    (m3 : ("strconv.ErrSyntax", Rows.laid_strconv_ErrSyntax) ∈ laid) (m4 : ("strconv.ErrRange", Rows.laid_strconv_ErrRange) ∈ laid) (m5 : ("strings.asciiSpace", Rows.laid_strings_asciiSpace) ∈ laid) : ∃ G, GX G ∧ GOk G W (fun _ => none) := by
  obtain ⟨G, ⟨h2, h3, h4⟩, h5⟩ := gsome hL hs hh m2 m3 m4 1 _ _ m5 (by kernel_rfl) (show Tryz.prog.globalNamed "strings.asciiSpace" = some 1 by kernel_rfl) (by kernel_rfl) (by decide)
  rw [e_space] at h4
  exact ⟨G, ⟨h2, h4, h3⟩, h5⟩
end Go.Dl

-- That no place of laid variables stands twice, found in one pass.
namespace Go.Dl
open Go Go.RowKit
def placeBits : List MemPlace → Nat → Bool
  | [], _ => true
  | .cell b off :: l, m => decide (off < 1024) && !(m.testBit (b * 1024 + off)) && placeBits l (m ||| 1 <<< (b * 1024 + off))
  | .map _ :: _, _ => false
theorem bit_lor {m k n : Nat} (h : (m ||| 1 <<< k).testBit n = false) : m.testBit n = false ∧ n ≠ k := by
  rw [Nat.testBit_or, Bool.or_eq_false_iff] at h
  refine ⟨h.1, fun e => ?_⟩
  subst e
  have := h.2
  rw [Nat.testBit_shiftLeft] at this
  simp at this
theorem placeBits_ok : ∀ (l : List MemPlace) (m : Nat), placeBits l m = true → l.Nodup ∧ ∀ p ∈ l, ∃ b off, p = .cell b off ∧ off < 1024 ∧ m.testBit (b * 1024 + off) = false
  | [], _, _ => ⟨List.nodup_nil, fun p hp => by cases hp⟩
  | .map _ :: _, _, h => by simp [placeBits] at h
  | .cell b off :: l, m, h => by
    simp only [placeBits, Bool.and_eq_true, decide_eq_true_eq, Bool.not_eq_true'] at h
    obtain ⟨⟨h1, h2⟩, h3⟩ := h
    obtain ⟨k1, k2⟩ := placeBits_ok l _ h3
    refine ⟨List.nodup_cons.2 ⟨fun hm => ?_, k1⟩, fun p hp => ?_⟩
    · obtain ⟨b', off', e, _, h5⟩ := k2 _ hm
      cases e
      exact (bit_lor h5).2 rfl
    · rcases List.mem_cons.1 hp with rfl | hp
      · exact ⟨b, off, rfl, h1, h2⟩
      · obtain ⟨b', off', e, h4, h5⟩ := k2 _ hp
        exact ⟨b', off', e, h4, (bit_lor h5).1⟩
theorem laidMet_fast {P : Program} {w : World} {l : List (String × DataW Unit)} (fuel : Nat) (h : (DataW.laidRun P w fuel (l.map (·.1))).map (·.1) = some l)
    (hr : (DataW.laidRun P w fuel (l.map (·.1))).map (fun x => placeBits x.2 0 && laidRowsB P w x.2) = some true) : laidMet P l w := by
  cases hx : DataW.laidRun P w fuel (l.map (·.1)) with
  | none => simp [hx] at h
  | some x =>
    obtain ⟨l', ps⟩ := x
    simp only [hx, Option.map_some, Option.some.injEq] at h hr
    subst h
    simp only [Bool.and_eq_true] at hr
    exact laidMet_of_run fuel hx (decide_eq_true (placeBits_ok _ _ hr.1).1) hr.2
end Go.Dl

-- Chapter 2: a world in which the package's variables hold what their text lays.
namespace Go.Dl
open Go Go.RowKit Go.Proofs Go.Proofs.YtojpnjngdiimhaaGreatDoor
noncomputable def world02 (os : Os) : World :=
  let N := (World.settled Tryz.prog os).heap.size
  let w0 := World.holding Tryz.prog os ⟨#[.cells #[.string ⟨#[105, 110, 118, 97, 108, 105, 100, 32, 115, 121, 110, 116, 97, 120]⟩] 173, .cells #[.string ⟨#[118, 97, 108, 117, 101, 32, 111, 117, 116, 32, 111, 102, 32, 114, 97, 110, 103, 101]⟩] 173,
    .cells #[.slice (some ⟨N + 3, 0, none⟩) 7 7, .slice none 0 0, .int .i64 2] 148,
    .cells (#[9, 13, 1, 32, 133, 101, 160, 5760, 5600, 8192, 8202, 1, 8232, 8233, 1, 8239, 8287, 48, 12288, 12288, 1].map (Value.int .u16)) 150], #[], []⟩
  let h2 := putV w0.heap 2 (litCells Rows.laid_internal_strconv_uint64pow10).toArray
  let h3 := putV h2 8 #[.iface 171 (.pointer (some ⟨N, 0, none⟩))]
  let h4 := putV h3 9 #[.iface 171 (.pointer (some ⟨N + 1, 0, none⟩))]
  let h5 := putV h4 4 (litCells Rows.laid_math_bits_deBruijn32tab).toArray
  let h6 := putV h5 5 (litCells Rows.laid_math_bits_deBruijn64tab).toArray
  let h7 := putV h6 7 (litCells Rows.laid_unicode_utf8_acceptRanges).toArray
  let h8 := putV h7 6 (litCells Rows.laid_unicode_utf8_first).toArray
  let h9 := putV h8 1 (litCells Rows.laid_strings_asciiSpace).toArray
  let ha := putV h9 3 #[.pointer (some ⟨N + 2, 0, none⟩)]
  { w0 with heap := ha }
end Go.Dl

-- Chapter 2: the reference's Name, Key, Symbol; LexWords.
namespace Go.Dl
open Go Go.Proofs
set_option maxRecDepth 100000

section
variable {G : Nat → DVal} {H : DHeap}
theorem rletter_spec (G : Nat → DVal) (H : DHeap) (b : UInt8) : DCalls Tryz.prog G 44 [.int .u8 b.toNat] H (DRet (.bool (letterB b)) H) := by
  refine dcalls_intro Tryz.func44 Tryz.call44 rfl (by kernel_rfl) ?_
  have hd : letterB b = (decide ((65 : Int) ≤ b.toNat) && decide ((b.toNat : Int) ≤ 90) || decide ((97 : Int) ≤ b.toNat) && decide ((b.toNat : Int) ≤ 122)) := by
    rw [letterB, decide_eq_decide.2 (show 65 ≤ b.toNat ↔ (65 : Int) ≤ b.toNat by omega), decide_eq_decide.2 (show b.toNat ≤ 90 ↔ (b.toNat : Int) ≤ 90 by omega), decide_eq_decide.2 (show 97 ≤ b.toNat ↔ (97 : Int) ≤ b.toNat by omega), decide_eq_decide.2 (show b.toNat ≤ 122 ↔ (b.toNat : Int) ≤ 122 by omega)]
  rw [hd]
  generalize (b.toNat : Int) = n
  by_cases h1 : 65 ≤ n
  · by_cases h2 : n ≤ 90
    · simp (disch := omega) only [go_sem, Nat.reduceEqDiff, Nat.reduceAdd, Nat.reduceMul, Nat.reduceSub, Nat.reduceLeDiff, ↓reduceIte, reduceCtorEq, Int.reduceAdd, Int.reduceSub, Int.reduceMul, Int.reduceNeg, Int.reduceToNat, List.reduceReplicate, String.reduceEq, h1, h2]
      exact DFin.refl ⟨by simp, rfl⟩
    · by_cases h3 : 97 ≤ n
      · simp (disch := omega) only [go_sem, Nat.reduceEqDiff, Nat.reduceAdd, Nat.reduceMul, Nat.reduceSub, Nat.reduceLeDiff, ↓reduceIte, reduceCtorEq, Int.reduceAdd, Int.reduceSub, Int.reduceMul, Int.reduceNeg, Int.reduceToNat, List.reduceReplicate, String.reduceEq, h1, h2, h3]
        exact DFin.refl ⟨by simp, rfl⟩
      · simp (disch := omega) only [go_sem, Nat.reduceEqDiff, Nat.reduceAdd, Nat.reduceMul, Nat.reduceSub, Nat.reduceLeDiff, ↓reduceIte, reduceCtorEq, Int.reduceAdd, Int.reduceSub, Int.reduceMul, Int.reduceNeg, Int.reduceToNat, List.reduceReplicate, String.reduceEq, h1, h2, h3]
        exact DFin.refl ⟨by simp, rfl⟩
  · have h3 : ¬ 97 ≤ n := by omega
    simp (disch := omega) only [go_sem, Nat.reduceEqDiff, Nat.reduceAdd, Nat.reduceMul, Nat.reduceSub, Nat.reduceLeDiff, ↓reduceIte, reduceCtorEq, Int.reduceAdd, Int.reduceSub, Int.reduceMul, Int.reduceNeg, Int.reduceToNat, List.reduceReplicate, String.reduceEq, h1, h3]
    exact DFin.refl ⟨by simp, rfl⟩
theorem rdigit_spec (G : Nat → DVal) (H : DHeap) (b : UInt8) : DCalls Tryz.prog G 73 [.int .u8 b.toNat] H (DRet (.bool (digitB b)) H) := by
  refine dcalls_intro Tryz.func73 Tryz.call73 rfl (by kernel_rfl) ?_
  by_cases h1 : 48 ≤ b.toNat
  · have h1' : (48 : Int) ≤ (b.toNat : Int) := by omega
    simp (disch := omega) only [go_sem, Nat.reduceEqDiff, Nat.reduceAdd, Nat.reduceMul, Nat.reduceSub, Nat.reduceLeDiff, ↓reduceIte, reduceCtorEq, Int.reduceAdd, Int.reduceSub, Int.reduceMul, Int.reduceNeg, Int.reduceToNat, List.reduceReplicate, String.reduceEq, h1']
    refine DFin.refl ⟨?_, rfl⟩
    rw [digitB, decide_eq_decide.2 (show (b.toNat : Int) ≤ 57 ↔ b.toNat ≤ 57 by omega), decide_eq_true h1, Bool.true_and]
  · have h1' : ¬ (48 : Int) ≤ (b.toNat : Int) := by omega
    simp (disch := omega) only [go_sem, Nat.reduceEqDiff, Nat.reduceAdd, Nat.reduceMul, Nat.reduceSub, Nat.reduceLeDiff, ↓reduceIte, reduceCtorEq, Int.reduceAdd, Int.reduceSub, Int.reduceMul, Int.reduceNeg, Int.reduceToNat, List.reduceReplicate, String.reduceEq, h1']
    refine DFin.refl ⟨?_, rfl⟩
    rw [digitB, decide_eq_false h1]; rfl
theorem rword_spec (G : Nat → DVal) (H : DHeap) (b : UInt8) : DCalls Tryz.prog G 45 [.int .u8 b.toNat] H (DRet (.bool (wordB b)) H) := by
  refine dcalls_intro Tryz.func45 Tryz.call45 rfl (by kernel_rfl) ?_
  simp (disch := omega) only [go_sem, Nat.reduceEqDiff, Nat.reduceAdd, Nat.reduceMul, Nat.reduceSub, Nat.reduceLeDiff, ↓reduceIte, reduceCtorEq, Int.reduceAdd, Int.reduceSub, Int.reduceMul, Int.reduceNeg, Int.reduceToNat, List.reduceReplicate, String.reduceEq]
  refine (rletter_spec G _ b).mono ?_
  rintro _ H1 ⟨rfl, rfl⟩
  cases hl : letterB b with
  | true =>
    simp (disch := omega) only [go_sem, Nat.reduceEqDiff, Nat.reduceAdd, Nat.reduceMul, Nat.reduceSub, Nat.reduceLeDiff, ↓reduceIte, reduceCtorEq, Int.reduceAdd, Int.reduceSub, Int.reduceMul, Int.reduceNeg, Int.reduceToNat, List.reduceReplicate, String.reduceEq]
    exact DFin.refl ⟨by rw [wordB, hl]; rfl, rfl⟩
  | false =>
    simp (disch := omega) only [go_sem, Nat.reduceEqDiff, Nat.reduceAdd, Nat.reduceMul, Nat.reduceSub, Nat.reduceLeDiff, ↓reduceIte, reduceCtorEq, Int.reduceAdd, Int.reduceSub, Int.reduceMul, Int.reduceNeg, Int.reduceToNat, List.reduceReplicate, String.reduceEq]
    refine (rdigit_spec G _ b).mono ?_
    rintro _ H1 ⟨rfl, rfl⟩
    cases hd : digitB b with
    | true =>
      simp (disch := omega) only [go_sem, Nat.reduceEqDiff, Nat.reduceAdd, Nat.reduceMul, Nat.reduceSub, Nat.reduceLeDiff, ↓reduceIte, reduceCtorEq, Int.reduceAdd, Int.reduceSub, Int.reduceMul, Int.reduceNeg, Int.reduceToNat, List.reduceReplicate, String.reduceEq]
      exact DFin.refl ⟨by rw [wordB, hl, hd]; rfl, rfl⟩
    | false =>
      by_cases h95 : b = 95
      · subst h95
        simp (disch := omega) only [go_sem, Nat.reduceEqDiff, Nat.reduceAdd, Nat.reduceMul, Nat.reduceSub, Nat.reduceLeDiff, ↓reduceIte, reduceCtorEq, Int.reduceAdd, Int.reduceSub, Int.reduceMul, Int.reduceNeg, Int.reduceToNat, List.reduceReplicate, String.reduceEq]
        exact DFin.refl ⟨rfl, rfl⟩
      · have h95' : ¬ (b.toNat : Int) = 95 := toNat_ne (d := 95) h95
        simp (disch := omega) only [go_sem, Nat.reduceEqDiff, Nat.reduceAdd, Nat.reduceMul, Nat.reduceSub, Nat.reduceLeDiff, ↓reduceIte, reduceCtorEq, Int.reduceAdd, Int.reduceSub, Int.reduceMul, Int.reduceNeg, Int.reduceToNat, List.reduceReplicate, String.reduceEq, h95']
        exact DFin.refl ⟨by rw [wordB, hl, hd, decide_eq_false h95]; rfl, rfl⟩
theorem in_spec (G : Nat → DVal) (H : DHeap) (l : List (List UInt8)) (s : List UInt8) (hl : l.length ≤ 1000000) : DCalls Tryz.prog G 48 [dStrs l, .str s] H (DRet (.bool (decide (s ∈ l))) H) := by
  refine dcalls_intro Tryz.func48 Tryz.call48 rfl (by kernel_rfl) ?_
  simp (disch := omega) only [go_sem, Nat.reduceEqDiff, Nat.reduceAdd, Nat.reduceMul, Nat.reduceSub, Nat.reduceLeDiff, ↓reduceIte, reduceCtorEq, Int.reduceAdd, Int.reduceSub, Int.reduceMul, Int.reduceNeg, Int.reduceToNat, List.reduceReplicate, String.reduceEq, dStrs]
  obtain ⟨I, hI⟩ : ∃ I : Nat → (Nat → DVal) → DHeap → Prop, ∀ k env heap, I k env heap ↔ (env 0 = .vslice (l.map .str) l.length ∧ env 1 = .str s ∧ env 5 = dI k ∧ k ≤ l.length ∧ (∀ x ∈ l.take k, x ≠ s) ∧ heap = H) := ⟨_, fun _ _ _ => Iff.rfl⟩
  refine DLoop.run I (fun k => l.length - k) 0 ((hI _ _ _).2 ?_) ?_
  · simp (disch := omega) only [go_sem, Nat.reduceEqDiff, Nat.reduceAdd, Nat.reduceMul, Nat.reduceSub, Nat.reduceLeDiff, ↓reduceIte, reduceCtorEq, Int.reduceAdd, Int.reduceSub, Int.reduceMul, Int.reduceNeg, Int.reduceToNat, List.reduceReplicate, String.reduceEq]
    (repeat' apply And.intro) <;> (try first | rfl | assumption | omega)
    intro x hx; simp at hx
  · intro k env heap hi
    obtain ⟨e0, e1, e5, hk, hn, rfl⟩ := (hI _ _ _).1 hi
    by_cases hlt : k < l.length
    · have hlt' : (k : Int) < (l.length : Int) := by omega
      have hg : (l.map DVal.str)[k]? = some (.str l[k]) := by rw [List.getElem?_map, List.getElem?_eq_getElem hlt]; rfl
      by_cases hw : l[k] = s
      · simp (disch := omega) only [go_sem, Nat.reduceEqDiff, Nat.reduceAdd, Nat.reduceMul, Nat.reduceSub, Nat.reduceLeDiff, ↓reduceIte, reduceCtorEq, Int.reduceAdd, Int.reduceSub, Int.reduceMul, Int.reduceNeg, Int.reduceToNat, List.reduceReplicate, String.reduceEq, e0, e1, e5, hlt', hlt, hg, hw, Int.toNat_natCast]
        exact DFin.refl ⟨by rw [decide_eq_true (by rw [← hw]; exact List.getElem_mem hlt)], rfl⟩
      · have hwd : IntKind.i64.wrap ((k : Int) + 1) = ((k + 1 : Nat) : Int) := by rw [IntKind.wrap_i64]; omega
        simp (disch := omega) only [go_sem, Nat.reduceEqDiff, Nat.reduceAdd, Nat.reduceMul, Nat.reduceSub, Nat.reduceLeDiff, ↓reduceIte, reduceCtorEq, Int.reduceAdd, Int.reduceSub, Int.reduceMul, Int.reduceNeg, Int.reduceToNat, List.reduceReplicate, String.reduceEq, e0, e1, e5, hlt', hlt, hg, hw, Int.toNat_natCast]
        refine ⟨k + 1, _, GhostS.refl _, (hI _ _ _).2 ?_, by omega⟩
        simp (disch := omega) only [go_sem, Nat.reduceEqDiff, Nat.reduceAdd, Nat.reduceMul, Nat.reduceSub, Nat.reduceLeDiff, ↓reduceIte, reduceCtorEq, Int.reduceAdd, Int.reduceSub, Int.reduceMul, Int.reduceNeg, Int.reduceToNat, List.reduceReplicate, String.reduceEq, e0, e1, e5, hwd]
        (repeat' apply And.intro) <;> (try first | rfl | assumption | omega)
        exact take_next (p := fun x => x ≠ s) hlt hn hw
    · have : k = l.length := by omega
      subst this
      simp (disch := omega) only [go_sem, Nat.reduceEqDiff, Nat.reduceAdd, Nat.reduceMul, Nat.reduceSub, Nat.reduceLeDiff, ↓reduceIte, reduceCtorEq, Int.reduceAdd, Int.reduceSub, Int.reduceMul, Int.reduceNeg, Int.reduceToNat, List.reduceReplicate, String.reduceEq, e0, e1, e5]
      rw [List.take_length] at hn
      exact DFin.refl ⟨by rw [decide_eq_false (fun h => hn s h rfl)], rfl⟩
def symsL : List (List UInt8) := [[61, 62], [46, 46], [58, 61], [47, 61], [60, 61], [62, 61], [60, 62], [40], [41], [44], [59], [58], [46], [39], [43], [45], [42], [47], [61], [60], [62], [124]]
theorem symB_mem (s : List UInt8) : symB s = decide (s ∈ symsL) := by
  cases h : symB s with
  | true =>
    refine (decide_eq_true ?_).symm
    have h2 : ∀ p ∈ syms2, [p.1, p.2] ∈ symsL := by decide +kernel
    have h1 : ∀ a ∈ syms1, [a] ∈ symsL := by decide +kernel
    rcases sym_facts h with ⟨a, rfl, ha⟩ | ⟨a, b, rfl, hab⟩
    · exact h1 a ha
    · exact h2 _ hab
  | false =>
    refine (decide_eq_false fun hm => ?_).symm
    have h3 : ∀ w ∈ symsL, symB w = true := by decide +kernel
    rw [h3 s hm] at h; cases h
theorem rkeys_spec (G : Nat → DVal) (H : DHeap) : DCalls Tryz.prog G 49 [] H (DRet (dStrs keysL) H) := by
  refine dcalls_intro Tryz.func49 Tryz.call49 rfl (by kernel_rfl) ?_
  simp (disch := omega) only [go_sem, Nat.reduceEqDiff, Nat.reduceAdd, Nat.reduceMul, Nat.reduceSub, Nat.reduceLeDiff, ↓reduceIte, reduceCtorEq, Int.reduceAdd, Int.reduceSub, Int.reduceMul, Int.reduceNeg, Int.reduceToNat, List.reduceReplicate, String.reduceEq]
  change dNewSO _ _ _ _ (some (keysL.map .str)) _ _
  simp (disch := omega) only [go_sem, Nat.reduceEqDiff, Nat.reduceAdd, Nat.reduceMul, Nat.reduceSub, Nat.reduceLeDiff, ↓reduceIte, reduceCtorEq, Int.reduceAdd, Int.reduceSub, Int.reduceMul, Int.reduceNeg, Int.reduceToNat, List.reduceReplicate, String.reduceEq]
  intro r hr; dsimp only at hr
  simp (disch := omega) only [go_sem, Nat.reduceEqDiff, Nat.reduceAdd, Nat.reduceMul, Nat.reduceSub, Nat.reduceLeDiff, ↓reduceIte, reduceCtorEq, Int.reduceAdd, Int.reduceSub, Int.reduceMul, Int.reduceNeg, Int.reduceToNat, List.reduceReplicate, String.reduceEq]
  refine DFin.fzA r hr ?_
  simp only [fz, if_pos, List.drop_zero]
  refine DFin.refl ⟨?_, rfl⟩
  rfl
theorem rsyms_spec (G : Nat → DVal) (H : DHeap) : DCalls Tryz.prog G 52 [] H (DRet (dStrs symsL) H) := by
  refine dcalls_intro Tryz.func52 Tryz.call52 rfl (by kernel_rfl) ?_
  simp (disch := omega) only [go_sem, Nat.reduceEqDiff, Nat.reduceAdd, Nat.reduceMul, Nat.reduceSub, Nat.reduceLeDiff, ↓reduceIte, reduceCtorEq, Int.reduceAdd, Int.reduceSub, Int.reduceMul, Int.reduceNeg, Int.reduceToNat, List.reduceReplicate, String.reduceEq]
  change dNewSO _ _ _ _ (some (symsL.map .str)) _ _
  simp (disch := omega) only [go_sem, Nat.reduceEqDiff, Nat.reduceAdd, Nat.reduceMul, Nat.reduceSub, Nat.reduceLeDiff, ↓reduceIte, reduceCtorEq, Int.reduceAdd, Int.reduceSub, Int.reduceMul, Int.reduceNeg, Int.reduceToNat, List.reduceReplicate, String.reduceEq]
  intro r hr; dsimp only at hr
  simp (disch := omega) only [go_sem, Nat.reduceEqDiff, Nat.reduceAdd, Nat.reduceMul, Nat.reduceSub, Nat.reduceLeDiff, ↓reduceIte, reduceCtorEq, Int.reduceAdd, Int.reduceSub, Int.reduceMul, Int.reduceNeg, Int.reduceToNat, List.reduceReplicate, String.reduceEq]
  refine DFin.fzA r hr ?_
  simp only [fz, if_pos, List.drop_zero]
  refine DFin.refl ⟨?_, rfl⟩
  rfl
theorem rkey_spec (G : Nat → DVal) (H : DHeap) (s : List UInt8) : DCalls Tryz.prog G 16 [.str s] H (DRet (.bool (keyB s)) H) := by
  refine dcalls_intro Tryz.func16 Tryz.call16 rfl (by kernel_rfl) ?_
  simp (disch := omega) only [go_sem, Nat.reduceEqDiff, Nat.reduceAdd, Nat.reduceMul, Nat.reduceSub, Nat.reduceLeDiff, ↓reduceIte, reduceCtorEq, Int.reduceAdd, Int.reduceSub, Int.reduceMul, Int.reduceNeg, Int.reduceToNat, List.reduceReplicate, String.reduceEq]
  refine (rkeys_spec G _).mono ?_
  rintro _ H1 ⟨rfl, rfl⟩
  simp (disch := omega) only [go_sem, Nat.reduceEqDiff, Nat.reduceAdd, Nat.reduceMul, Nat.reduceSub, Nat.reduceLeDiff, ↓reduceIte, reduceCtorEq, Int.reduceAdd, Int.reduceSub, Int.reduceMul, Int.reduceNeg, Int.reduceToNat, List.reduceReplicate, String.reduceEq]
  refine (in_spec G _ keysL s (by decide)).mono ?_
  rintro _ H1 ⟨rfl, rfl⟩
  simp (disch := omega) only [go_sem, Nat.reduceEqDiff, Nat.reduceAdd, Nat.reduceMul, Nat.reduceSub, Nat.reduceLeDiff, ↓reduceIte, reduceCtorEq, Int.reduceAdd, Int.reduceSub, Int.reduceMul, Int.reduceNeg, Int.reduceToNat, List.reduceReplicate, String.reduceEq]
  exact DFin.refl ⟨rfl, rfl⟩
theorem rsymbol_spec (G : Nat → DVal) (H : DHeap) (s : List UInt8) : DCalls Tryz.prog G 18 [.str s] H (DRet (.bool (symB s)) H) := by
  refine dcalls_intro Tryz.func18 Tryz.call18 rfl (by kernel_rfl) ?_
  simp (disch := omega) only [go_sem, Nat.reduceEqDiff, Nat.reduceAdd, Nat.reduceMul, Nat.reduceSub, Nat.reduceLeDiff, ↓reduceIte, reduceCtorEq, Int.reduceAdd, Int.reduceSub, Int.reduceMul, Int.reduceNeg, Int.reduceToNat, List.reduceReplicate, String.reduceEq]
  refine (rsyms_spec G _).mono ?_
  rintro _ H1 ⟨rfl, rfl⟩
  simp (disch := omega) only [go_sem, Nat.reduceEqDiff, Nat.reduceAdd, Nat.reduceMul, Nat.reduceSub, Nat.reduceLeDiff, ↓reduceIte, reduceCtorEq, Int.reduceAdd, Int.reduceSub, Int.reduceMul, Int.reduceNeg, Int.reduceToNat, List.reduceReplicate, String.reduceEq]
  refine (in_spec G _ symsL s (by decide)).mono ?_
  rintro _ H1 ⟨rfl, rfl⟩
  simp (disch := omega) only [go_sem, Nat.reduceEqDiff, Nat.reduceAdd, Nat.reduceMul, Nat.reduceSub, Nat.reduceLeDiff, ↓reduceIte, reduceCtorEq, Int.reduceAdd, Int.reduceSub, Int.reduceMul, Int.reduceNeg, Int.reduceToNat, List.reduceReplicate, String.reduceEq]
  exact DFin.refl ⟨by rw [symB_mem], rfl⟩
end
end Go.Dl

-- Chapter 2: LexWords.
namespace Go.Dl
open Go Go.Proofs
set_option maxRecDepth 100000

section
variable {G : Nat → DVal} {H : DHeap}
theorem rname_spec (G : Nat → DVal) (H : DHeap) (s : List UInt8) : DCalls Tryz.prog G 14 [.str s] H (DRet (.bool (nameB s)) H) := by
  refine dcalls_intro Tryz.func14 Tryz.call14 rfl (by kernel_rfl) ?_
  match s with
  | [] =>
    simp (disch := omega) only [go_sem, Nat.reduceEqDiff, Nat.reduceAdd, Nat.reduceMul, Nat.reduceSub, Nat.reduceLeDiff, ↓reduceIte, reduceCtorEq, Int.reduceAdd, Int.reduceSub, Int.reduceMul, Int.reduceNeg, Int.reduceToNat, List.reduceReplicate, String.reduceEq, List.length_nil]
    exact DFin.refl ⟨rfl, rfl⟩
  | c :: r =>
    obtain ⟨s, hs⟩ : ∃ s, s = c :: r := ⟨_, rfl⟩
    have h0 : s[0]? = some c := by rw [hs]; rfl
    have hpos : 0 < s.length := by rw [hs]; simp
    have hdef : nameB s = (letterB c && decide (s.length ≤ 32) && s.all wordB && !keyB s) := by rw [hs]; rfl
    rw [← hs, hdef]
    have h1 : ¬ (s.length : Int) < 1 := by omega
    by_cases hl : s.length ≤ 32
    · have hl' : ¬ (32 : Int) < (s.length : Int) := by omega
      simp (disch := omega) only [go_sem, Nat.reduceEqDiff, Nat.reduceAdd, Nat.reduceMul, Nat.reduceSub, Nat.reduceLeDiff, ↓reduceIte, reduceCtorEq, Int.reduceAdd, Int.reduceSub, Int.reduceMul, Int.reduceNeg, Int.reduceToNat, List.reduceReplicate, String.reduceEq, h1, hl', h0]
      refine (rletter_spec G _ c).mono ?_
      rintro _ H1 ⟨rfl, rfl⟩
      cases hle : letterB c with
      | false =>
        simp (disch := omega) only [go_sem, Nat.reduceEqDiff, Nat.reduceAdd, Nat.reduceMul, Nat.reduceSub, Nat.reduceLeDiff, ↓reduceIte, reduceCtorEq, Int.reduceAdd, Int.reduceSub, Int.reduceMul, Int.reduceNeg, Int.reduceToNat, List.reduceReplicate, String.reduceEq]
        exact DFin.refl ⟨rfl, rfl⟩
      | true =>
        simp (disch := omega) only [go_sem, Nat.reduceEqDiff, Nat.reduceAdd, Nat.reduceMul, Nat.reduceSub, Nat.reduceLeDiff, ↓reduceIte, reduceCtorEq, Int.reduceAdd, Int.reduceSub, Int.reduceMul, Int.reduceNeg, Int.reduceToNat, List.reduceReplicate, String.reduceEq]
        refine (rkey_spec G _ s).mono ?_
        rintro _ H1 ⟨rfl, rfl⟩
        cases hk : keyB s with
        | true =>
          simp (disch := omega) only [go_sem, Nat.reduceEqDiff, Nat.reduceAdd, Nat.reduceMul, Nat.reduceSub, Nat.reduceLeDiff, ↓reduceIte, reduceCtorEq, Int.reduceAdd, Int.reduceSub, Int.reduceMul, Int.reduceNeg, Int.reduceToNat, List.reduceReplicate, String.reduceEq]
          exact DFin.refl ⟨by simp, rfl⟩
        | false =>
          simp (disch := omega) only [go_sem, Nat.reduceEqDiff, Nat.reduceAdd, Nat.reduceMul, Nat.reduceSub, Nat.reduceLeDiff, ↓reduceIte, reduceCtorEq, Int.reduceAdd, Int.reduceSub, Int.reduceMul, Int.reduceNeg, Int.reduceToNat, List.reduceReplicate, String.reduceEq]
          obtain ⟨I, hI⟩ : ∃ I : Nat → (Nat → DVal) → DHeap → Prop, ∀ k env heap, I k env heap ↔ (env 0 = .str s ∧ env 3 = dI k ∧ k ≤ s.length ∧ (s.take k).all wordB = true ∧ heap = H1) := ⟨_, fun _ _ _ => Iff.rfl⟩
          refine DLoop.run I (fun k => s.length - k) 0 ((hI _ _ _).2 ?_) ?_
          · simp (disch := omega) only [go_sem, Nat.reduceEqDiff, Nat.reduceAdd, Nat.reduceMul, Nat.reduceSub, Nat.reduceLeDiff, ↓reduceIte, reduceCtorEq, Int.reduceAdd, Int.reduceSub, Int.reduceMul, Int.reduceNeg, Int.reduceToNat, List.reduceReplicate, String.reduceEq]
            (repeat' apply And.intro) <;> (try first | rfl | assumption | omega)
          · intro k env heap hi
            obtain ⟨e0, e3, hk2, hw, rfl⟩ := (hI _ _ _).1 hi
            by_cases hlt : k < s.length
            · have hlt' : (k : Int) < (s.length : Int) := by omega
              have hg : s[k]? = some s[k] := List.getElem?_eq_getElem hlt
              have hwd : IntKind.i64.wrap ((k : Int) + 1) = ((k + 1 : Nat) : Int) := by rw [IntKind.wrap_i64]; omega
              simp (disch := omega) only [go_sem, Nat.reduceEqDiff, Nat.reduceAdd, Nat.reduceMul, Nat.reduceSub, Nat.reduceLeDiff, ↓reduceIte, reduceCtorEq, Int.reduceAdd, Int.reduceSub, Int.reduceMul, Int.reduceNeg, Int.reduceToNat, List.reduceReplicate, String.reduceEq, e0, e3, hlt', hg, Int.toNat_natCast]
              refine (rword_spec G _ s[k]).mono ?_
              rintro _ H2 ⟨rfl, rfl⟩
              cases hb : wordB s[k] with
              | true =>
                simp (disch := omega) only [go_sem, Nat.reduceEqDiff, Nat.reduceAdd, Nat.reduceMul, Nat.reduceSub, Nat.reduceLeDiff, ↓reduceIte, reduceCtorEq, Int.reduceAdd, Int.reduceSub, Int.reduceMul, Int.reduceNeg, Int.reduceToNat, List.reduceReplicate, String.reduceEq, e0, e3]
                refine ⟨k + 1, _, GhostS.refl _, (hI _ _ _).2 ?_, by omega⟩
                simp (disch := omega) only [go_sem, Nat.reduceEqDiff, Nat.reduceAdd, Nat.reduceMul, Nat.reduceSub, Nat.reduceLeDiff, ↓reduceIte, reduceCtorEq, Int.reduceAdd, Int.reduceSub, Int.reduceMul, Int.reduceNeg, Int.reduceToNat, List.reduceReplicate, String.reduceEq, e0, e3, hwd]
                (repeat' apply And.intro) <;> (try first | rfl | assumption | omega)
                rw [List.take_add_one, hg, List.all_append, hw]; simpa using hb
              | false =>
                simp (disch := omega) only [go_sem, Nat.reduceEqDiff, Nat.reduceAdd, Nat.reduceMul, Nat.reduceSub, Nat.reduceLeDiff, ↓reduceIte, reduceCtorEq, Int.reduceAdd, Int.reduceSub, Int.reduceMul, Int.reduceNeg, Int.reduceToNat, List.reduceReplicate, String.reduceEq, e0, e3]
                have : s.all wordB = false := by
                  rw [List.all_eq_false]; exact ⟨s[k], List.getElem_mem hlt, by rw [hb]; simp⟩
                exact DFin.refl ⟨by rw [this], rfl⟩
            · have : k = s.length := by omega
              subst this
              simp (disch := omega) only [go_sem, Nat.reduceEqDiff, Nat.reduceAdd, Nat.reduceMul, Nat.reduceSub, Nat.reduceLeDiff, ↓reduceIte, reduceCtorEq, Int.reduceAdd, Int.reduceSub, Int.reduceMul, Int.reduceNeg, Int.reduceToNat, List.reduceReplicate, String.reduceEq, e0, e3]
              rw [List.take_length] at hw
              exact DFin.refl ⟨by rw [hw], rfl⟩
    · have hl' : (32 : Int) < (s.length : Int) := by omega
      simp (disch := omega) only [go_sem, Nat.reduceEqDiff, Nat.reduceAdd, Nat.reduceMul, Nat.reduceSub, Nat.reduceLeDiff, ↓reduceIte, reduceCtorEq, Int.reduceAdd, Int.reduceSub, Int.reduceMul, Int.reduceNeg, Int.reduceToNat, List.reduceReplicate, String.reduceEq, h1, hl', h0]
      exact DFin.refl ⟨by simp, rfl⟩
theorem lexWords_spec (hG : GX G) (H : DHeap) (s : List UInt8) (hs : s.length ≤ 9223372036854775807) : DCalls Tryz.prog G 3 [.str s] H (DRet (.bool true) H) := by
  refine dcalls_intro Tryz.func3 Tryz.call3 rfl (by kernel_rfl) ?_
  simp (disch := omega) only [go_sem, Nat.reduceEqDiff, Nat.reduceAdd, Nat.reduceMul, Nat.reduceSub, Nat.reduceLeDiff, ↓reduceIte, reduceCtorEq, Int.reduceAdd, Int.reduceSub, Int.reduceMul, Int.reduceNeg, Int.reduceToNat, List.reduceReplicate, String.reduceEq]
  refine (name_spec2 hG _ s (by omega)).mono ?_
  rintro _ H1 ⟨rfl, rfl⟩
  simp (disch := omega) only [go_sem, Nat.reduceEqDiff, Nat.reduceAdd, Nat.reduceMul, Nat.reduceSub, Nat.reduceLeDiff, ↓reduceIte, reduceCtorEq, Int.reduceAdd, Int.reduceSub, Int.reduceMul, Int.reduceNeg, Int.reduceToNat, List.reduceReplicate, String.reduceEq]
  refine (rname_spec G _ s).mono ?_
  rintro _ H1 ⟨rfl, rfl⟩
  simp (disch := omega) only [go_sem, Nat.reduceEqDiff, Nat.reduceAdd, Nat.reduceMul, Nat.reduceSub, Nat.reduceLeDiff, ↓reduceIte, reduceCtorEq, Int.reduceAdd, Int.reduceSub, Int.reduceMul, Int.reduceNeg, Int.reduceToNat, List.reduceReplicate, String.reduceEq]
  refine (key_spec hG _ s).mono ?_
  rintro _ H1 ⟨rfl, rfl⟩
  simp (disch := omega) only [go_sem, Nat.reduceEqDiff, Nat.reduceAdd, Nat.reduceMul, Nat.reduceSub, Nat.reduceLeDiff, ↓reduceIte, reduceCtorEq, Int.reduceAdd, Int.reduceSub, Int.reduceMul, Int.reduceNeg, Int.reduceToNat, List.reduceReplicate, String.reduceEq]
  refine (rkey_spec G _ s).mono ?_
  rintro _ H1 ⟨rfl, rfl⟩
  simp (disch := omega) only [go_sem, Nat.reduceEqDiff, Nat.reduceAdd, Nat.reduceMul, Nat.reduceSub, Nat.reduceLeDiff, ↓reduceIte, reduceCtorEq, Int.reduceAdd, Int.reduceSub, Int.reduceMul, Int.reduceNeg, Int.reduceToNat, List.reduceReplicate, String.reduceEq]
  refine (symbolS_spec hG _ s (by omega)).mono ?_
  rintro _ H1 ⟨rfl, rfl⟩
  simp (disch := omega) only [go_sem, Nat.reduceEqDiff, Nat.reduceAdd, Nat.reduceMul, Nat.reduceSub, Nat.reduceLeDiff, ↓reduceIte, reduceCtorEq, Int.reduceAdd, Int.reduceSub, Int.reduceMul, Int.reduceNeg, Int.reduceToNat, List.reduceReplicate, String.reduceEq]
  refine (rsymbol_spec G _ s).mono ?_
  rintro _ H1 ⟨rfl, rfl⟩
  simp (disch := omega) only [go_sem, Nat.reduceEqDiff, Nat.reduceAdd, Nat.reduceMul, Nat.reduceSub, Nat.reduceLeDiff, ↓reduceIte, reduceCtorEq, Int.reduceAdd, Int.reduceSub, Int.reduceMul, Int.reduceNeg, Int.reduceToNat, List.reduceReplicate, String.reduceEq]
  refine (awake_spec hG _).mono ?_
  rintro _ H1 ⟨rfl, rfl⟩
  simp (disch := omega) only [go_sem, Nat.reduceEqDiff, Nat.reduceAdd, Nat.reduceMul, Nat.reduceSub, Nat.reduceLeDiff, ↓reduceIte, reduceCtorEq, Int.reduceAdd, Int.reduceSub, Int.reduceMul, Int.reduceNeg, Int.reduceToNat, List.reduceReplicate, String.reduceEq]
  exact DFin.refl ⟨rfl, rfl⟩
end
end Go.Dl
