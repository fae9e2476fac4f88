/- The data level and the contracts of the functions that are reached (part 8). -/
import Derived.Lib.AppendIntMem
import Derived.Lib.IndexLaws
import Derived.Shelf.Strings.Builder1
import Derived.Test.YtbefgogblpebfaaDoorQg
set_option linter.unusedSimpArgs false
set_option linter.unusedVariables false
-- Chapter 30: a line, the time, the text of the reference.
namespace Go.Dl
open Go Go.Proofs
set_option maxRecDepth 10000

/-- What a line gives. -/
def lineD (s : List UInt8) : DVal := match partC s with | some (o, v) => .tuple [.int .u8 o, dI v, .bool true] | none => .tuple [.int .u8 0, dI 0, .bool false]
theorem lineD_none {s : List UInt8} (h : ∀ o v, ¬ LineC o v s) : lineD s = .tuple [.int .u8 0, dI 0, .bool false] := by
  unfold lineD
  cases hp : partC s with
  | none => rfl
  | some p => exact absurd (partC_iff.1 hp) (h p.1 p.2)
theorem lineD_some {s : List UInt8} {o : Nat} {v : Int} (h : LineC o v s) : lineD s = .tuple [.int .u8 o, dI v, .bool true] := by
  rw [lineD, partC_iff.2 h]
theorem line_spec (G : Nat → DVal) (H : DHeap) (s : List UInt8) (hs : s.length ≤ 1000000000) : DCalls Tryd.prog G 61 [.str s] H (DRet (lineD s) H) := by
  refine dcalls_intro Tryd.func61 Tryd.call61 rfl (by kernel_rfl) ?_
  simp (disch := omega) only [go_sem, Nat.reduceEqDiff, Nat.reduceAdd, Nat.reduceMul, Nat.reduceSub, Nat.reduceLeDiff, ↓reduceIte, reduceCtorEq, Int.reduceAdd, Int.reduceSub, Int.reduceMul, Int.reduceNeg, Int.reduceToNat, List.reduceReplicate, String.reduceEq]
  refine (rwords_spec G _ s hs).mono ?_
  rintro _ H ⟨rfl, rfl⟩
  simp (disch := omega) only [go_sem, Nat.reduceEqDiff, Nat.reduceAdd, Nat.reduceMul, Nat.reduceSub, Nat.reduceLeDiff, ↓reduceIte, reduceCtorEq, Int.reduceAdd, Int.reduceSub, Int.reduceMul, Int.reduceNeg, Int.reduceToNat, List.reduceReplicate, String.reduceEq, dStrs]
  by_cases c2 : (fieldsL s).length = 2
  · obtain ⟨a, b, hab⟩ : ∃ a b, fieldsL s = [a, b] := by
      match fieldsL s, c2 with
      | [a, b], _ => exact ⟨a, b, rfl⟩
    rw [hab]
    simp (disch := omega) only [go_sem, Nat.reduceEqDiff, Nat.reduceAdd, Nat.reduceMul, Nat.reduceSub, Nat.reduceLeDiff, ↓reduceIte, reduceCtorEq, Int.reduceAdd, Int.reduceSub, Int.reduceMul, Int.reduceNeg, Int.reduceToNat, List.reduceReplicate, String.reduceEq, List.length_cons, List.length_nil, List.map_cons, List.map_nil]
    refine (rnamed_spec G _ a).mono ?_
    rintro _ H ⟨rfl, rfl⟩
    simp (disch := omega) only [go_sem, Nat.reduceEqDiff, Nat.reduceAdd, Nat.reduceMul, Nat.reduceSub, Nat.reduceLeDiff, ↓reduceIte, reduceCtorEq, Int.reduceAdd, Int.reduceSub, Int.reduceMul, Int.reduceNeg, Int.reduceToNat, List.reduceReplicate, String.reduceEq]
    have hnb := namedC_bounds a
    obtain ⟨I, hI⟩ : ∃ I : Nat → (Nat → DVal) → DHeap → Prop, ∀ v env heap, I v env heap ↔ (heap = H ∧ env 5 = .vslice [.str a, .str b] 2 ∧ env 6 = .int .u8 (namedC a) ∧ env 7 = .bool (decide (1 ≤ namedC a)) ∧ env 8 = dI v ∧ 1 ≤ v ∧ v ≤ 1001 ∧ ∀ u : Nat, 1 ≤ u → u < v → b ≠ Lib.itoa u) := ⟨_, fun _ _ _ => Iff.rfl⟩
    refine DLoop.run I (fun v => 1001 - v) 1 ((hI _ _ _).2 ?_) ?_
    · simp (disch := omega) only [go_sem, Nat.reduceEqDiff, Nat.reduceAdd, Nat.reduceMul, Nat.reduceSub, Nat.reduceLeDiff, ↓reduceIte, reduceCtorEq, Int.reduceAdd, Int.reduceSub, Int.reduceMul, Int.reduceNeg, Int.reduceToNat, List.reduceReplicate, String.reduceEq]
      (repeat' apply And.intro) <;> (try first | rfl | assumption | omega)
      all_goals (intros; omega)
    · intro v env heap hi
      obtain ⟨rfl, e5, e6, e7, e8, hv1, hv2, hn⟩ := (hI _ _ _).1 hi
      by_cases cv : v ≤ 1000
      · by_cases cn : 1 ≤ namedC a
        · have cv' : (v : Int) ≤ 1000 := by omega
          simp (disch := omega) only [go_sem, Nat.reduceEqDiff, Nat.reduceAdd, Nat.reduceMul, Nat.reduceSub, Nat.reduceLeDiff, ↓reduceIte, reduceCtorEq, Int.reduceAdd, Int.reduceSub, Int.reduceMul, Int.reduceNeg, Int.reduceToNat, List.reduceReplicate, String.reduceEq, e5, e6, e7, e8, cv', cn]
          refine dwp_draws (by kernel_rfl) (.take 0 (.take 1 (.take 2 (.take 3 (.go 4 [2] (.take 5 .done)))))) (by kernel_rfl) ?_
          simp (disch := omega) only [go_sem, Nat.reduceEqDiff, Nat.reduceAdd, Nat.reduceMul, Nat.reduceSub, Nat.reduceLeDiff, ↓reduceIte, reduceCtorEq, Int.reduceAdd, Int.reduceSub, Int.reduceMul, Int.reduceNeg, Int.reduceToNat, List.reduceReplicate, String.reduceEq, e5, e6, e7, e8]
          refine (rint_spec G _ (v : Int) ⟨by omega, by omega⟩).mono ?_
          rintro _ H1 ⟨rfl, rfl⟩
          by_cases cb : b = Lib.itoa v
          · simp (disch := omega) only [go_sem, Nat.reduceEqDiff, Nat.reduceAdd, Nat.reduceMul, Nat.reduceSub, Nat.reduceLeDiff, ↓reduceIte, reduceCtorEq, Int.reduceAdd, Int.reduceSub, Int.reduceMul, Int.reduceNeg, Int.reduceToNat, List.reduceReplicate, String.reduceEq, e5, e6, e7, e8, cb]
            refine DFin.refl ⟨?_, rfl⟩
            have hl := of_words (o := (namedC a).toNat) (v := (v : Int)) hab (by omega) (by omega) (by omega) (by omega) cb
            rw [lineD_some hl]; try rw [Int.toNat_of_nonneg hnb.1]
          · simp (disch := omega) only [go_sem, Nat.reduceEqDiff, Nat.reduceAdd, Nat.reduceMul, Nat.reduceSub, Nat.reduceLeDiff, ↓reduceIte, reduceCtorEq, Int.reduceAdd, Int.reduceSub, Int.reduceMul, Int.reduceNeg, Int.reduceToNat, List.reduceReplicate, String.reduceEq, e5, e6, e7, e8, cb]
            refine ⟨v + 1, _, GhostS.refl _, (hI _ _ _).2 ?_, by omega⟩
            simp (disch := omega) only [go_sem, Nat.reduceEqDiff, Nat.reduceAdd, Nat.reduceMul, Nat.reduceSub, Nat.reduceLeDiff, ↓reduceIte, reduceCtorEq, Int.reduceAdd, Int.reduceSub, Int.reduceMul, Int.reduceNeg, Int.reduceToNat, List.reduceReplicate, String.reduceEq, e5, e6, e7, e8]
            (repeat' apply And.intro) <;> (try first | rfl | assumption | omega)
            intro u h1 h2
            by_cases hu : u = v
            · subst hu; exact cb
            · exact hn u h1 (by omega)
        · simp (disch := omega) only [go_sem, Nat.reduceEqDiff, Nat.reduceAdd, Nat.reduceMul, Nat.reduceSub, Nat.reduceLeDiff, ↓reduceIte, reduceCtorEq, Int.reduceAdd, Int.reduceSub, Int.reduceMul, Int.reduceNeg, Int.reduceToNat, List.reduceReplicate, String.reduceEq, e5, e6, e7, e8, cn]
          refine DFin.refl ⟨?_, rfl⟩
          rw [lineD_none fun o v hl => ?_]
          have := words_of hl
          rw [hab] at this
          simp only [List.cons.injEq, and_true] at this
          rw [this.1, namedC_name hl.1 hl.2.1] at cn
          have := hl.1; omega
      · have cv' : ¬ (v : Int) ≤ 1000 := by omega
        simp (disch := omega) only [go_sem, Nat.reduceEqDiff, Nat.reduceAdd, Nat.reduceMul, Nat.reduceSub, Nat.reduceLeDiff, ↓reduceIte, reduceCtorEq, Int.reduceAdd, Int.reduceSub, Int.reduceMul, Int.reduceNeg, Int.reduceToNat, List.reduceReplicate, String.reduceEq, e5, e6, e7, e8, cv']
        refine DFin.refl ⟨?_, rfl⟩
        rw [lineD_none fun o u hl => ?_]
        have := words_of hl
        rw [hab] at this
        simp only [List.cons.injEq, and_true] at this
        have h1 := hl.2.2.1
        have h2 := hl.2.2.2.1
        exact hn u.toNat (by omega) (by omega) (by rw [this.2, Int.toNat_of_nonneg (by omega)])
  · have c2' : ¬ ((fieldsL s).length : Int) = 2 := by omega
    simp (disch := omega) only [go_sem, Nat.reduceEqDiff, Nat.reduceAdd, Nat.reduceMul, Nat.reduceSub, Nat.reduceLeDiff, ↓reduceIte, reduceCtorEq, Int.reduceAdd, Int.reduceSub, Int.reduceMul, Int.reduceNeg, Int.reduceToNat, List.reduceReplicate, String.reduceEq, c2']
    refine DFin.refl ⟨?_, rfl⟩
    rw [lineD_none fun o u hl => ?_]
    rw [words_of hl] at c2
    exact c2 rfl

theorem rtakes_spec (G : Nat → DVal) (H : DHeap) (c : List Int) (hc : c.length = 58) (o : Int) (h0 : 0 ≤ o) (h1 : o < 256)
    (sc : List Int) (hs : sc.length ≤ 35184372088832) (hb : ∀ x ∈ sc, 0 ≤ x ∧ x < 256) (i : Int) (hi : I64 i) :
    DCalls Tryd.prog G 24 [dCs c, .int .u8 o, dB8 sc, dI i] H (DRet (.tuple [dI (takesD c o sc i).1, dI (takesD c o sc i).2]) H) := by
  have hlen : (c.map dI).length = 58 := by rw [List.length_map, hc]
  have htk : (c.map dI).take 58 = c.map dI := List.take_of_length_le (by omega)
  obtain ⟨hi1, hi2⟩ := hi
  refine dcalls_intro Tryd.func24 Tryd.call24 rfl (by kernel_rfl) ?_
  simp (disch := omega) only [go_sem, Nat.reduceEqDiff, Nat.reduceAdd, Nat.reduceMul, Nat.reduceSub, Nat.reduceLeDiff, ↓reduceIte, reduceCtorEq, Int.reduceAdd, Int.reduceSub, Int.reduceMul, Int.reduceNeg, Int.reduceToNat, List.reduceReplicate, String.reduceEq, dCs, DVal.cells, dB8]
  intro r hr; dsimp only at hr
  simp (disch := omega) only [go_sem, Nat.reduceEqDiff, Nat.reduceAdd, Nat.reduceMul, Nat.reduceSub, Nat.reduceLeDiff, ↓reduceIte, reduceCtorEq, Int.reduceAdd, Int.reduceSub, Int.reduceMul, Int.reduceNeg, Int.reduceToNat, List.reduceReplicate, String.reduceEq, hlen, htk]
  rw [show DVal.agg (c.map dI) = dCs c from rfl]
  refine (rmayC_spec G (upd H r (some (DObj.cells (c.map dI) 23))) c hc).mono ?_
  rintro _ H1 ⟨rfl, rfl⟩
  cases hm : mayC c with
  | false =>
    simp (disch := omega) only [go_sem, Nat.reduceEqDiff, Nat.reduceAdd, Nat.reduceMul, Nat.reduceSub, Nat.reduceLeDiff, ↓reduceIte, reduceCtorEq, Int.reduceAdd, Int.reduceSub, Int.reduceMul, Int.reduceNeg, Int.reduceToNat, List.reduceReplicate, String.reduceEq]
    exact DFin.dropA r hr (DFin.refl ⟨by rw [takesD, hm, Bool.and_false]; rfl, rfl⟩)
  | true =>
    simp (disch := omega) only [go_sem, Nat.reduceEqDiff, Nat.reduceAdd, Nat.reduceMul, Nat.reduceSub, Nat.reduceLeDiff, ↓reduceIte, reduceCtorEq, Int.reduceAdd, Int.reduceSub, Int.reduceMul, Int.reduceNeg, Int.reduceToNat, List.reduceReplicate, String.reduceEq]
    refine (ris_spec G (upd H r (some (DObj.cells (c.map dI) 23))) o h0 h1).mono ?_
    rintro _ H1 ⟨rfl, rfl⟩
    cases ho : isO o with
    | false =>
      simp (disch := omega) only [go_sem, Nat.reduceEqDiff, Nat.reduceAdd, Nat.reduceMul, Nat.reduceSub, Nat.reduceLeDiff, ↓reduceIte, reduceCtorEq, Int.reduceAdd, Int.reduceSub, Int.reduceMul, Int.reduceNeg, Int.reduceToNat, List.reduceReplicate, String.reduceEq]
      exact DFin.dropA r hr (DFin.refl ⟨by rw [takesD, ho]; rfl, rfl⟩)
    | true =>
      have hom : 1 ≤ o ∧ o ≤ 57 := by simpa [isO] using ho
      have hcv := mayC_at hc hm (o := o.toNat) (by omega) (by omega)
      have hget := cget hc (i := o.toNat) (by omega)
      by_cases c1 : i < 0
      · simp (disch := omega) only [go_sem, Nat.reduceEqDiff, Nat.reduceAdd, Nat.reduceMul, Nat.reduceSub, Nat.reduceLeDiff, ↓reduceIte, reduceCtorEq, Int.reduceAdd, Int.reduceSub, Int.reduceMul, Int.reduceNeg, Int.reduceToNat, List.reduceReplicate, String.reduceEq]
        exact DFin.dropA r hr (DFin.refl ⟨by rw [takesD, decide_eq_false (p := 0 ≤ i) (by omega)]; simp, rfl⟩)
      generalize hv : c.getD o.toNat 0 = v at hcv hget
      by_cases c2 : sc = []
      · subst c2
        simp (disch := omega) only [go_sem, Nat.reduceEqDiff, Nat.reduceAdd, Nat.reduceMul, Nat.reduceSub, Nat.reduceLeDiff, ↓reduceIte, reduceCtorEq, Int.reduceAdd, Int.reduceSub, Int.reduceMul, Int.reduceNeg, Int.reduceToNat, List.reduceReplicate, String.reduceEq, List.length_nil, hlen, hget]
        exact DFin.dropA r hr (DFin.refl ⟨by rw [takesD, ho, hm, decide_eq_true (p := 0 ≤ i) (by omega), hv]; rfl, rfl⟩)
      · have hpos : 0 < sc.length := List.length_pos_iff.2 c2
        have hm1 : i.tmod (sc.length : Int) = ((i.toNat % sc.length : Nat) : Int) := by
          rw [Int.tmod_eq_emod_of_nonneg (by omega), Int.natCast_emod, Int.toNat_of_nonneg (by omega)]
        have hml : i.toNat % sc.length < sc.length := Nat.mod_lt _ hpos
        generalize hj : i.toNat % sc.length = j at hm1 hml
        have hget2 : (sc.map (DVal.int .u8))[j]? = some (.int .u8 (sc.getD j 0)) := by rw [List.getElem?_map, List.getElem?_eq_getElem hml, List.getD, List.getElem?_eq_getElem hml]; rfl
        have hxb : 0 ≤ sc.getD j 0 ∧ sc.getD j 0 < 256 := by
          rw [List.getD, List.getElem?_eq_getElem hml]; exact hb _ (List.getElem_mem hml)
        generalize hx : sc.getD j 0 = x at hxb hget2
        have hw1 : IntKind.i64.wrap x = x := by rw [IntKind.wrap_i64]; omega
        have hmm : 0 ≤ x.tmod v ∧ x.tmod v < v := by
          rw [Int.tmod_eq_emod_of_nonneg (by omega)]
          exact ⟨Int.emod_nonneg _ (by omega), Int.emod_lt_of_pos _ (by omega)⟩
        have hz : ¬ (sc.length : Int) = 0 := by omega
        simp (disch := omega) only [go_sem, Nat.reduceEqDiff, Nat.reduceAdd, Nat.reduceMul, Nat.reduceSub, Nat.reduceLeDiff, ↓reduceIte, reduceCtorEq, Int.reduceAdd, Int.reduceSub, Int.reduceMul, Int.reduceNeg, Int.reduceToNat, List.reduceReplicate, String.reduceEq, List.length_map, hlen, hz]
        refine dwp_draws (by kernel_rfl) (.take 0 (.take 1 (.take 2 (.take 3 (.take 4 (.take 5 (.take 6 (.take 7 (.take 8 (.take 9 (.take 10 (.take 11 (.take 12 (.take 13 (.take 14 (.take 15 (.take 16 (.take 17 .done)))))))))))))))))) (by kernel_rfl) ?_
        simp (disch := omega) only [go_sem, Nat.reduceEqDiff, Nat.reduceAdd, Nat.reduceMul, Nat.reduceSub, Nat.reduceLeDiff, ↓reduceIte, reduceCtorEq, Int.reduceAdd, Int.reduceSub, Int.reduceMul, Int.reduceNeg, Int.reduceToNat, List.reduceReplicate, String.reduceEq, List.length_map, hm1, hget, hget2, hw1, hlen]
        exact DFin.dropA r hr (DFin.refl ⟨by rw [takesD, ho, hm, decide_eq_true (p := 0 ≤ i) (by omega), hv, if_neg c2, hj, hx]; rfl, rfl⟩)

/-- The lines of the first operations. -/
def textCi (c : List Int) (i : Nat) : List UInt8 := (List.range i).flatMap fun i => lineC c (i + 1)
theorem textCi_succ (c : List Int) (i : Nat) : textCi c (i + 1) = textCi c i ++ lineC c (i + 1) := by simp [textCi, List.range_succ]
theorem lineC_len {c : List Int} (hc : c.length = 58) (hm : mayC c = true) {o : Nat} (h1 : 1 ≤ o) (h2 : o ≤ 57) : (lineC c o).length ≤ 30 := by
  have h3 := (nameC_chars h1 h2).2.1
  have h4 := mayC_at hc hm h1 h2
  have h5 := itoa_len (n := c.getD o 0) ⟨by omega, by omega⟩
  rw [lineC]
  simp only [List.length_append, List.length_cons, List.length_nil]
  omega
theorem textCi_len {c : List Int} (hc : c.length = 58) (hm : mayC c = true) : ∀ {i : Nat}, i ≤ 57 → (textCi c i).length ≤ 30 * i
  | 0, _ => by simp [textCi]
  | i + 1, h => by
    have h1 := textCi_len hc hm (i := i) (by omega)
    have h2 := lineC_len hc hm (o := i + 1) (by omega) (by omega)
    rw [textCi_succ, List.length_append]; omega
def textCD (c : List Int) : List UInt8 × Int := if mayC c then (textC c, 0) else ([], 2)
theorem rtextC_spec (G : Nat → DVal) (H : DHeap) (c : List Int) (hc : c.length = 58) : DCalls Tryd.prog G 26 [dCs c] H (DRet (.tuple [.str (textCD c).1, dI (textCD c).2]) H) := by
  have hlen : (c.map dI).length = 58 := by rw [List.length_map, hc]
  have htk : (c.map dI).take 58 = c.map dI := List.take_of_length_le (by omega)
  refine dcalls_intro Tryd.func26 Tryd.call26 rfl (by kernel_rfl) ?_
  simp (disch := omega) only [go_sem, Nat.reduceEqDiff, Nat.reduceAdd, Nat.reduceMul, Nat.reduceSub, Nat.reduceLeDiff, ↓reduceIte, reduceCtorEq, Int.reduceAdd, Int.reduceSub, Int.reduceMul, Int.reduceNeg, Int.reduceToNat, List.reduceReplicate, String.reduceEq, dCs, DVal.cells]
  intro r hr; dsimp only at hr
  simp (disch := omega) only [go_sem, Nat.reduceEqDiff, Nat.reduceAdd, Nat.reduceMul, Nat.reduceSub, Nat.reduceLeDiff, ↓reduceIte, reduceCtorEq, Int.reduceAdd, Int.reduceSub, Int.reduceMul, Int.reduceNeg, Int.reduceToNat, List.reduceReplicate, String.reduceEq, hlen, htk]
  rw [show DVal.agg (c.map dI) = dCs c from rfl]
  refine (rmayC_spec G (upd H r (some (DObj.cells (c.map dI) 23))) c hc).mono ?_
  rintro _ H1 ⟨rfl, rfl⟩
  cases hm : mayC c with
  | false =>
    simp (disch := omega) only [go_sem, Nat.reduceEqDiff, Nat.reduceAdd, Nat.reduceMul, Nat.reduceSub, Nat.reduceLeDiff, ↓reduceIte, reduceCtorEq, Int.reduceAdd, Int.reduceSub, Int.reduceMul, Int.reduceNeg, Int.reduceToNat, List.reduceReplicate, String.reduceEq]
    exact DFin.dropA r hr (DFin.refl ⟨by rw [textCD, hm]; rfl, rfl⟩)
  | true =>
    simp (disch := omega) only [go_sem, Nat.reduceEqDiff, Nat.reduceAdd, Nat.reduceMul, Nat.reduceSub, Nat.reduceLeDiff, ↓reduceIte, reduceCtorEq, Int.reduceAdd, Int.reduceSub, Int.reduceMul, Int.reduceNeg, Int.reduceToNat, List.reduceReplicate, String.reduceEq]
    obtain ⟨I, hI⟩ : ∃ I : Nat → (Nat → DVal) → DHeap → Prop, ∀ i env heap, I i env heap ↔ (heap = upd H r (some (DObj.cells (c.map dI) 23)) ∧ env 1 = .optr r 0 ∧ env 4 = .str (textCi c i) ∧ env 5 = .int .u8 (((i + 1 : Nat)) : Int) ∧ i ≤ 57) := ⟨_, fun _ _ _ => Iff.rfl⟩
    refine DLoop.run I (fun i => 57 - i) 0 ((hI _ _ _).2 ?_) ?_
    · simp (disch := omega) only [go_sem, Nat.reduceEqDiff, Nat.reduceAdd, Nat.reduceMul, Nat.reduceSub, Nat.reduceLeDiff, ↓reduceIte, reduceCtorEq, Int.reduceAdd, Int.reduceSub, Int.reduceMul, Int.reduceNeg, Int.reduceToNat, List.reduceReplicate, String.reduceEq]
      (repeat' apply And.intro) <;> (try first | rfl | assumption | omega)
    · intro i env heap hi
      obtain ⟨rfl, e1, e4, e5, hi1⟩ := (hI _ _ _).1 hi
      have htl := textCi_len hc hm hi1
      by_cases hlt : i < 57
      · have hlt' : (((i + 1 : Nat)) : Int) < 58 := by omega
        have hget := cget hc (i := i + 1) (by omega)
        have hcv := mayC_at hc hm (o := i + 1) (by omega) (by omega)
        have hil := itoa_len (n := c.getD (i + 1) 0) ⟨by omega, by omega⟩
        have hnl := (nameC_chars (o := i + 1) (by omega) (by omega)).2.1
        have hrr := rrAt_at hlt
        rw [show (i : Int) + 1 = ((i + 1 : Nat) : Int) by omega] at hrr
        have hlc : lineC c (i + 1) = nameC (i + 1) ++ [32] ++ Lib.itoa (c.getD (i + 1) 0) ++ [10] := by rw [lineC]; simp
        have hts := textCi_succ c i
        rw [hlc] at hts
        have hw : IntKind.u8.wrap (((i + 1 : Nat) : Int) + 1) = ((i + 1 + 1 : Nat) : Int) := by rw [IntKind.wrap_u8]; omega
        simp (disch := omega) only [go_sem, Nat.reduceEqDiff, Nat.reduceAdd, Nat.reduceMul, Nat.reduceSub, Nat.reduceLeDiff, ↓reduceIte, reduceCtorEq, Int.reduceAdd, Int.reduceSub, Int.reduceMul, Int.reduceNeg, Int.reduceToNat, List.reduceReplicate, String.reduceEq, e1, e4, e5, hlt']
        refine (rfind_spec G _ _ (by omega) (by omega)).mono ?_
        rintro _ H1 ⟨rfl, rfl⟩
        simp (disch := omega) only [go_sem, Nat.reduceEqDiff, Nat.reduceAdd, Nat.reduceMul, Nat.reduceSub, Nat.reduceLeDiff, ↓reduceIte, reduceCtorEq, Int.reduceAdd, Int.reduceSub, Int.reduceMul, Int.reduceNeg, Int.reduceToNat, List.reduceReplicate, String.reduceEq, hrr, dRRow, e1, e4, e5]
        intro r2 hr2; dsimp only at hr2
        have d1 : ¬ r = r2 := fun e => by subst e; simp [upd] at hr2
        have d2 : ¬ r2 = r := fun e => d1 e.symm
        simp (disch := omega) only [go_sem, Nat.reduceEqDiff, Nat.reduceAdd, Nat.reduceMul, Nat.reduceSub, Nat.reduceLeDiff, ↓reduceIte, reduceCtorEq, Int.reduceAdd, Int.reduceSub, Int.reduceMul, Int.reduceNeg, Int.reduceToNat, List.reduceReplicate, String.reduceEq, e1, e4, e5, d1, d2, DVal.cells]
        refine dwp_draws (by kernel_rfl) (.take 0 (.take 1 (.take 2 (.take 3 (.take 4 (.take 5 (.take 6 (.take 7 (.go 8 [2] (.take 9 (.take 10 (.take 11 .done)))))))))))) (by kernel_rfl) ?_
        simp (disch := omega) only [go_sem, Nat.reduceEqDiff, Nat.reduceAdd, Nat.reduceMul, Nat.reduceSub, Nat.reduceLeDiff, ↓reduceIte, reduceCtorEq, Int.reduceAdd, Int.reduceSub, Int.reduceMul, Int.reduceNeg, Int.reduceToNat, List.reduceReplicate, String.reduceEq, e1, e4, e5, d1, d2, hlen, hget, Int.toNat_natCast, List.length_append, List.length_cons, List.length_nil]
        refine (rint_spec G _ (c.getD (i + 1) 0) ⟨by omega, by omega⟩).mono ?_
        rintro _ H1 ⟨rfl, rfl⟩
        simp (disch := omega) only [go_sem, Nat.reduceEqDiff, Nat.reduceAdd, Nat.reduceMul, Nat.reduceSub, Nat.reduceLeDiff, ↓reduceIte, reduceCtorEq, Int.reduceAdd, Int.reduceSub, Int.reduceMul, Int.reduceNeg, Int.reduceToNat, List.reduceReplicate, String.reduceEq, e1, e4, e5, d1, d2, List.length_append, List.length_cons, List.length_nil, hw]
        refine ⟨i + 1, _, GhostS.drop _ r2, (hI _ _ _).2 ?_, by omega⟩
        simp (disch := omega) only [go_sem, Nat.reduceEqDiff, Nat.reduceAdd, Nat.reduceMul, Nat.reduceSub, Nat.reduceLeDiff, ↓reduceIte, reduceCtorEq, Int.reduceAdd, Int.reduceSub, Int.reduceMul, Int.reduceNeg, Int.reduceToNat, List.reduceReplicate, String.reduceEq, e1, e4, e5]
        (repeat' apply And.intro) <;> (try first | rfl | assumption | omega)
        · exact upd_self hr2
        · rw [hts]; simp
      · have : i = 57 := by omega
        subst this
        simp (disch := omega) only [go_sem, Nat.reduceEqDiff, Nat.reduceAdd, Nat.reduceMul, Nat.reduceSub, Nat.reduceLeDiff, ↓reduceIte, reduceCtorEq, Int.reduceAdd, Int.reduceSub, Int.reduceMul, Int.reduceNeg, Int.reduceToNat, List.reduceReplicate, String.reduceEq, e1, e4, e5]
        exact DFin.dropA r hr (DFin.refl ⟨by rw [textCD, hm]; rfl, rfl⟩)
end Go.Dl

-- Library functions at the data level: FormatInt, IndexByte, HasSuffix, Lines.
namespace Go.Dl
open Go Go.Proofs Go.RowKit
set_option maxRecDepth 10000
attribute [go_sem] List.getElem?_toArray List.getElem?_cons_zero List.getElem?_cons_succ List.append_eq

theorem Quiet.grow (w : World) (k : Nat) (os : Array Obj) : Quiet w (Sort.grow (w.drewN k) os) :=
  ⟨rfl, rfl, rfl, Lib.size_grow w k os, fun b hb => Lib.heap_grow_old w k os b hb⟩
theorem tab_is {P : Program} {w : World} {H : DHeap} {G : Nat → DVal} {g : Nat} {name : String} {k : IntKind} {zs : List Int} (hg : P.globalNamed name = some g) (h : GOk G w H) (e : G g = .vptr (zs.map fun z => .int k z) 0) : Lib.TabIs P w name k zs := by
  have hx := h.exact g _ e
  have hr := h.rel g
  rw [e] at hr
  have hc := tab_cells hg hr rfl
  unfold Lib.TabIs World.var?
  rw [hg]
  simp only [Option.bind_some]
  cases ho : w.heap[g]? with
  | none => rw [ho] at hx; cases hx
  | some o =>
    cases o with
    | cells c t fz =>
      rw [ho] at hx
      simp only [csize, Option.some.injEq, List.length_map] at hx
      simp only [Option.some.injEq]
      apply Array.ext_getElem?
      intro i
      by_cases hi : i < zs.length
      · have := hc i zs[i] (List.getElem?_eq_getElem hi)
        simp only [World.cell?, ho] at this
        simp [hi]
        simpa using this
      · rw [Array.getElem?_eq_none (by omega), Array.getElem?_eq_none (by simp; omega)]
    | _ => rw [ho] at hx; cases hx

section
variable {G : Nat → DVal} {H : DHeap}
def dPw : List DVal := Lib.pow10Tab.map fun z => .int .u64 z
theorem formatInt_spec (hG : G 3 = .vptr dPw 0) (n : Int) (h : I64 n) :
    DCalls Tryd.prog G 53 [dI n, dI 10] H (DRet (.str (Lib.itoa n)) H) := by
  refine DCalls.quiet Tryd.call53 fun vs w hv hH hg => ?_
  simp only [RelL, Rel] at hv
  obtain ⟨_, _, rfl, rfl, _, _, rfl, rfl, rfl⟩ := hv
  refine (Tryd.strconv_FormatInt_10 n h.1 h.2 w (tab_is (show Tryd.prog.globalNamed "internal/strconv.uint64pow10" = some 3 by kernel_rfl) hg hG)).mono fun e w' ⟨he, k, os, hw⟩ => ?_
  subst he; subst hw
  exact ⟨.grow _ _ _, _, rfl, .ret _ _ (by simp [Rel])⟩
theorem indexByte_spec (s : List UInt8) (c : UInt8) : DCalls Tryd.prog G 82 [.str s, .int .u8 c.toNat] H (DRet (dI (Lib.indexByte s c)) H) := by
  refine DCalls.quiet Tryd.call82 fun vs w hv hH hg => ?_
  simp only [RelL, Rel] at hv
  obtain ⟨_, _, rfl, rfl, _, _, rfl, rfl, rfl⟩ := hv
  refine (Tryd.strings_IndexByte ⟨⟨s⟩⟩ c.toNat w).mono fun e w' ⟨he, hw⟩ => ?_
  subst he; subst hw
  exact ⟨.refl _, _, rfl, .ret _ _ (by simp [Rel])⟩
theorem hasSuffix_spec (s p : List UInt8) (hs : s.length ≤ 9223372036854775807) : DCalls Tryd.prog G 56 [.str s, .str p] H (DRet (.bool (Lib.hasSuffix s p)) H) := by
  refine DCalls.quiet Tryd.call56 fun vs w hv hH hg => ?_
  simp only [RelL, Rel] at hv
  obtain ⟨_, _, rfl, rfl, _, _, rfl, rfl, rfl⟩ := hv
  refine (Tryd.strings_HasSuffix ⟨⟨s⟩⟩ ⟨⟨p⟩⟩ w hs).mono fun e w' ⟨he, hw⟩ => ?_
  subst he; subst hw
  exact ⟨.refl _, _, rfl, .ret _ _ (by simp [Rel])⟩
end

/-- The lines of a text, with their line feeds. -/
def linesG (s : List UInt8) : List (List UInt8) := (linesR s []).1.map (· ++ [10]) ++ (if (linesR s []).2 = [] then [] else [(linesR s []).2])
theorem linesG_nil : linesG [] = [] := rfl
theorem linesG_no {t : List UInt8} (h : (10 : UInt8) ∉ t) (hn : t ≠ []) : linesG t = [t] := by
  rw [linesG, linesR_no t h]; simp [hn]
theorem linesG_at {w r : List UInt8} (h : (10 : UInt8) ∉ w) : linesG (w ++ 10 :: r) = (w ++ [10]) :: linesG r := by
  rw [linesG, linesR_at w r h, linesG]; simp
theorem lf_cases (t : List UInt8) : ((10 : UInt8) ∉ t ∧ Lib.indexByte t 10 = -1) ∨ ∃ w r, t = w ++ 10 :: r ∧ (10 : UInt8) ∉ w ∧ Lib.indexByte t 10 = w.length := by
  rcases (by omega : Lib.indexByte t 10 < 0 ∨ 0 ≤ Lib.indexByte t 10) with h | h
  · have := Lib.indexByte_ge t 10
    have he : Lib.indexByte t 10 = -1 := by omega
    refine .inl ⟨fun hm => ?_, he⟩
    obtain ⟨i, hi, e⟩ := List.mem_iff_getElem.1 hm
    exact Lib.indexByte_none he i (by rw [List.getElem?_eq_getElem hi, e])
  · obtain ⟨o, ho⟩ : ∃ o : Nat, Lib.indexByte t 10 = o := ⟨(Lib.indexByte t 10).toNat, by omega⟩
    obtain ⟨h1, h2⟩ := Lib.indexByte_some ho
    obtain ⟨hl, he⟩ := List.getElem?_eq_some_iff.1 h1
    refine .inr ⟨t.take o, t.drop (o + 1), ?_, fun hm => ?_, by rw [ho, List.length_take]; omega⟩
    · conv => lhs; rw [← List.take_append_drop o t, List.drop_eq_getElem_cons hl, he]
    · obtain ⟨j, hj, e⟩ := List.mem_take_iff_getElem.1 hm
      exact h2 j (by omega) (by rw [List.getElem?_eq_getElem (by omega), e])

theorem drop_cons_iff' {α : Type} {L M : List α} {k : Nat} {x : α} (h : L.drop k = x :: M) : L[k]? = some x ∧ L.drop (k + 1) = M ∧ k + 1 ≤ L.length := by
  have hl : k < L.length := by
    rcases Nat.lt_or_ge k L.length with h1 | h1
    · exact h1
    · rw [List.drop_of_length_le h1] at h; cases h
  rw [List.drop_eq_getElem_cons hl] at h
  simp only [List.cons.injEq] at h
  exact ⟨by rw [List.getElem?_eq_getElem hl, h.1], h.2, hl⟩

def lineB (rs : Nat) (s : List UInt8) : DHeap := upd h0 rs (some (.cells [.str s] 9))
theorem lines_spec (G : Nat → DVal) (H : DHeap) (s : List UInt8) : DCalls Tryd.prog G 57 [.str s] H (fun e H' => ∃ r, e = .ret (.func (.func 81) [] [.optr r 0]) ∧ H r = none ∧ H' = upd H r (some (.cells [.str s] 9))) := by
  refine dcalls_intro Tryd.func57 Tryd.call57 rfl (by kernel_rfl) ?_
  simp (disch := omega) only [go_sem, Nat.reduceEqDiff, Nat.reduceAdd, Nat.reduceMul, Nat.reduceSub, Nat.reduceLeDiff, ↓reduceIte, reduceCtorEq, Int.reduceAdd, Int.reduceSub, Int.reduceMul, Int.reduceNeg, Int.reduceToNat, List.reduceReplicate, String.reduceEq]
  intro r hr; dsimp only at hr
  simp (disch := omega) only [go_sem, Nat.reduceEqDiff, Nat.reduceAdd, Nat.reduceMul, Nat.reduceSub, Nat.reduceLeDiff, ↓reduceIte, reduceCtorEq, Int.reduceAdd, Int.reduceSub, Int.reduceMul, Int.reduceNeg, Int.reduceToNat, List.reduceReplicate, String.reduceEq]
  exact DFin.refl ⟨r, rfl, hr, rfl⟩
theorem lines_iter (G : Nat → DVal) (s : List UInt8) (hs : s.length ≤ 1000000000) (rs : Nat) : DIter Tryd.prog G 81 [.optr rs 0] (lineB rs s) ((linesG s).map fun l => [.str l]) := by
  intro l I Ix Hi X d1 d2 d3 hYl hHl hI hY
  have hrs : Hi rs = none := d2 rs (by simp [lineB, upd])
  have hXr : X rs = none := by
    cases e : X rs with
    | none => rfl
    | some o => have := d3 rs (by simp [e]); simp [lineB, upd] at this
  have hlr : l ≠ rs := fun e => by rw [e] at hHl; exact hHl hrs
  have hst : over (over Hi (lineB rs s)) X = over (upd Hi rs (some (.cells [.str s] 9))) X := by
    congr 1
    funext i; simp only [lineB, over, upd, h0]; by_cases e : i = rs <;> simp [e]
  rw [hst]
  refine dcalls_intro Tryd.func81 Tryd.call81 rfl (by kernel_rfl) ?_
  simp (disch := omega) only [go_sem, Nat.reduceEqDiff, Nat.reduceAdd, Nat.reduceMul, Nat.reduceSub, Nat.reduceLeDiff, ↓reduceIte, reduceCtorEq, Int.reduceAdd, Int.reduceSub, Int.reduceMul, Int.reduceNeg, Int.reduceToNat, List.reduceReplicate, String.reduceEq]
  obtain ⟨J, hJ⟩ : ∃ J : Nat × List UInt8 → (Nat → DVal) → DHeap → Prop, ∀ ix env heap, J ix env heap ↔ (env 0 = .func (.yield l) [] [] ∧ env 1 = .optr rs 0 ∧ ix.2.length ≤ 1000000000 ∧ ((linesG s).map fun l => [DVal.str l]).drop ix.1 = (linesG ix.2).map (fun l => [DVal.str l]) ∧ ix.1 ≤ ((linesG s).map fun l => [DVal.str l]).length ∧ heap rs = some (.cells [.str ix.2] 9) ∧ ∃ X, heap = over (upd Hi rs (some (.cells [.str ix.2] 9))) X ∧ Disj (upd Hi rs (some (.cells [.str ix.2] 9))) X ∧ I ix.1 X) := ⟨_, fun _ _ _ => Iff.rfl⟩
  refine DLoop.run J (fun ix => ix.2.length) (0, s) ((hJ _ _ _).2 ?_) ?_
  · simp (disch := omega) only [go_sem, Nat.reduceEqDiff, Nat.reduceAdd, Nat.reduceMul, Nat.reduceSub, Nat.reduceLeDiff, ↓reduceIte, reduceCtorEq, Int.reduceAdd, Int.reduceSub, Int.reduceMul, Int.reduceNeg, Int.reduceToNat, List.reduceReplicate, String.reduceEq]
    refine ⟨?_, X, rfl, d1.lo hXr _, hI⟩
    rw [over_hi hXr, upd_same]
  · rintro ⟨k, t⟩ env heap hi
    obtain ⟨e0, e1, htl, hL, hk, hrt, X, hh, d1, hI⟩ := (hJ _ _ _).1 hi
    dsimp only at htl hL hk hrt hh d1 hI
    have hXr : X rs = none := d1.x (by simp [upd])
    have hup : ∀ t', upd heap rs (some (.cells [.str t'] 9)) = over (upd Hi rs (some (.cells [.str t'] 9))) X := fun t' => by
      rw [hh, upd_over_lo hXr, upd_idem]
    have dj : ∀ t', Disj (upd Hi rs (some (.cells [.str t'] 9))) X := fun t' => by
      have := d1.lo hXr (some (.cells [.str t'] 9)); rwa [upd_idem] at this
    have hsub : ∀ (X' : DHeap) t' o, Disj (upd (upd Hi rs (some (.cells [.str t'] 9))) l o) X' → Sub (over (upd Hi l o) X') (over (upd (upd Hi rs (some (.cells [.str t'] 9))) l o) X') ∧ Disj (upd Hi l o) X' := fun X' t' o hd => by
      have hX2 : X' rs = none := hd.x (by simp [upd, hlr.symm])
      refine ⟨fun b o' hb => ?_, ?_⟩
      · cases e : X' b with
        | some o2 => rw [over_x e] at hb ⊢; exact hb
        | none =>
          rw [over_hi e] at hb ⊢
          by_cases e2 : b = rs
          · subst e2; simp [upd, hlr.symm, hrs] at hb
          · rw [upd_swap hlr]
            simp only [upd, if_neg e2]
            simp only [upd] at hb
            exact hb
      · intro b hb
        have := hd b hb
        by_cases e2 : b = rs
        · subst e2; exact absurd hX2 hb
        · simp only [upd, if_neg e2] at this ⊢; exact this
    by_cases ht : t = []
    · subst ht
      simp (disch := omega) only [go_sem, Nat.reduceEqDiff, Nat.reduceAdd, Nat.reduceMul, Nat.reduceSub, Nat.reduceLeDiff, ↓reduceIte, reduceCtorEq, Int.reduceAdd, Int.reduceSub, Int.reduceMul, Int.reduceNeg, Int.reduceToNat, List.reduceReplicate, String.reduceEq, e0, e1, hrt, List.length_nil]
      have hkl : k = ((linesG s).map fun l => [DVal.str l]).length := by
        have := congrArg List.length hL
        rw [List.length_drop] at this
        simp [linesG_nil] at this
        simp at hk ⊢
        omega
      rw [hh]
      refine DFin.sub (H' := over Hi X) (fun b o hb => ?_) (DFin.refl ⟨⟨_, rfl⟩, X, .inl ⟨rfl, fun b hb => ?_, by rw [hkl] at hI; simpa using hI⟩⟩)
      · cases e : X b with
        | some o2 => rw [over_x e] at hb ⊢; exact hb
        | none =>
          rw [over_hi e] at hb ⊢
          by_cases e2 : b = rs
          · subst e2; rw [hrs] at hb; cases hb
          · simp only [upd, if_neg e2]; exact hb
      · have := d1 b hb
        by_cases e2 : b = rs
        · subst e2; exact hrs
        · simp only [upd, if_neg e2] at this; exact this
    · have hpos : 0 < t.length := List.length_pos_iff.2 ht
      have hpos' : (0 : Int) < (t.length : Int) := by omega
      simp (disch := omega) only [go_sem, Nat.reduceEqDiff, Nat.reduceAdd, Nat.reduceMul, Nat.reduceSub, Nat.reduceLeDiff, ↓reduceIte, reduceCtorEq, Int.reduceAdd, Int.reduceSub, Int.reduceMul, Int.reduceNeg, Int.reduceToNat, List.reduceReplicate, String.reduceEq, e0, e1, hrt, hpos']
      refine (indexByte_spec (G := G) t 10).mono ?_
      rintro _ H1 ⟨rfl, rfl⟩
      rcases lf_cases t with ⟨hno, hix⟩ | ⟨w, r, hwr, hno, hix⟩
      · rw [linesG_no hno ht] at hL
        obtain ⟨hx, hL2, hk2⟩ := drop_cons_iff' hL
        simp (disch := omega) only [go_sem, Nat.reduceEqDiff, Nat.reduceAdd, Nat.reduceMul, Nat.reduceSub, Nat.reduceLeDiff, ↓reduceIte, reduceCtorEq, Int.reduceAdd, Int.reduceSub, Int.reduceMul, Int.reduceNeg, Int.reduceToNat, List.reduceReplicate, String.reduceEq, e0, e1, hix, hrt]
        rw [hup []]
        refine (hY k _ _ X (dj []) (by simp [upd, hlr]) hx hI).mono ?_
        rintro e1' H1 ⟨X', (⟨rfl, rfl, d2, hI2⟩ | ⟨rfl, o, ho, rfl, d2, hx2⟩)⟩
        · simp (disch := omega) only [go_sem, Nat.reduceEqDiff, Nat.reduceAdd, Nat.reduceMul, Nat.reduceSub, Nat.reduceLeDiff, ↓reduceIte, reduceCtorEq, Int.reduceAdd, Int.reduceSub, Int.reduceMul, Int.reduceNeg, Int.reduceToNat, List.reduceReplicate, String.reduceEq, e0, e1]
          have hX2 : X' rs = none := d2.x (by simp [upd])
          refine ⟨(k + 1, []), _, GhostS.refl _, (hJ _ _ _).2 ?_, by dsimp only; simpa using hpos⟩
          simp (disch := omega) only [go_sem, Nat.reduceEqDiff, Nat.reduceAdd, Nat.reduceMul, Nat.reduceSub, Nat.reduceLeDiff, ↓reduceIte, reduceCtorEq, Int.reduceAdd, Int.reduceSub, Int.reduceMul, Int.reduceNeg, Int.reduceToNat, List.reduceReplicate, String.reduceEq, e0, e1, List.length_nil]
          (repeat' apply And.intro) <;> (try first | rfl | assumption | omega)
          · simpa using hk2
          · rw [over_hi hX2, upd_same]
          · exact ⟨X', rfl, d2, hI2⟩
        · simp (disch := omega) only [go_sem, Nat.reduceEqDiff, Nat.reduceAdd, Nat.reduceMul, Nat.reduceSub, Nat.reduceLeDiff, ↓reduceIte, reduceCtorEq, Int.reduceAdd, Int.reduceSub, Int.reduceMul, Int.reduceNeg, Int.reduceToNat, List.reduceReplicate, String.reduceEq, e0, e1]
          obtain ⟨k1, k2⟩ := hsub X' [] o d2
          exact DFin.sub k1 (DFin.refl ⟨⟨_, rfl⟩, X', .inr ⟨o, ho, rfl, k2, hx2⟩⟩)
      · subst hwr
        rw [linesG_at hno] at hL
        obtain ⟨hx, hL2, hk2⟩ := drop_cons_iff' hL
        have hw1 : IntKind.i64.wrap ((w.length : Int) + 1) = ((w.length + 1 : Nat) : Int) := by
          rw [List.length_append, List.length_cons] at htl; rw [IntKind.wrap_i64]; omega
        have ht1 : (w ++ 10 :: r).take (w.length + 1 - 0) = w ++ [10] := by
          rw [Nat.sub_zero, show w ++ 10 :: r = (w ++ [10]) ++ r by simp, List.take_append_of_le_length (by simp), List.take_of_length_le (by simp)]
        have ht2 : ((w ++ 10 :: r).drop (w.length + 1)).take ((w ++ 10 :: r).length - (w.length + 1)) = r := by
          rw [show w ++ 10 :: r = (w ++ [10]) ++ r by simp, List.drop_append_of_le_length (by simp), List.drop_of_length_le (by simp), List.nil_append, List.take_of_length_le (by simp; omega)]
        have hle : w.length + 1 ≤ (w ++ 10 :: r).length := by simp
        simp (disch := omega) only [go_sem, Nat.reduceEqDiff, Nat.reduceAdd, Nat.reduceMul, Nat.reduceSub, Nat.reduceLeDiff, ↓reduceIte, reduceCtorEq, Int.reduceAdd, Int.reduceSub, Int.reduceMul, Int.reduceNeg, Int.reduceToNat, List.reduceReplicate, String.reduceEq, e0, e1, hix, hrt]
        refine dwp_draws (by kernel_rfl) (.take 0 (.take 1 (.take 2 (.take 3 (.take 4 (.take 5 (.take 6 (.take 7 (.take 8 (.go 9 [] .done)))))))))) (by kernel_rfl) ?_
        simp (disch := omega) only [go_sem, Nat.reduceEqDiff, Nat.reduceAdd, Nat.reduceMul, Nat.reduceSub, Nat.reduceLeDiff, ↓reduceIte, reduceCtorEq, Int.reduceAdd, Int.reduceSub, Int.reduceMul, Int.reduceNeg, Int.reduceToNat, List.reduceReplicate, String.reduceEq, e0, e1, hix, hrt, hw1, Int.toNat_natCast, ht1, ht2]
        rw [hup r]
        refine (hY k _ _ X (dj r) (by simp [upd, hlr]) hx hI).mono ?_
        rintro e1' H1 ⟨X', (⟨rfl, rfl, d2, hI2⟩ | ⟨rfl, o, ho, rfl, d2, hx2⟩)⟩
        · simp (disch := omega) only [go_sem, Nat.reduceEqDiff, Nat.reduceAdd, Nat.reduceMul, Nat.reduceSub, Nat.reduceLeDiff, ↓reduceIte, reduceCtorEq, Int.reduceAdd, Int.reduceSub, Int.reduceMul, Int.reduceNeg, Int.reduceToNat, List.reduceReplicate, String.reduceEq, e0, e1]
          have hX2 : X' rs = none := d2.x (by simp [upd])
          refine ⟨(k + 1, r), _, GhostS.refl _, (hJ _ _ _).2 ?_, by dsimp only; simp; omega⟩
          simp (disch := omega) only [go_sem, Nat.reduceEqDiff, Nat.reduceAdd, Nat.reduceMul, Nat.reduceSub, Nat.reduceLeDiff, ↓reduceIte, reduceCtorEq, Int.reduceAdd, Int.reduceSub, Int.reduceMul, Int.reduceNeg, Int.reduceToNat, List.reduceReplicate, String.reduceEq, e0, e1]
          (repeat' apply And.intro) <;> (try first | rfl | assumption | omega)
          · simp at htl; omega
          · simpa using hk2
          · rw [over_hi hX2, upd_same]
          · exact ⟨X', rfl, d2, hI2⟩
        · simp (disch := omega) only [go_sem, Nat.reduceEqDiff, Nat.reduceAdd, Nat.reduceMul, Nat.reduceSub, Nat.reduceLeDiff, ↓reduceIte, reduceCtorEq, Int.reduceAdd, Int.reduceSub, Int.reduceMul, Int.reduceNeg, Int.reduceToNat, List.reduceReplicate, String.reduceEq, e0, e1]
          obtain ⟨k1, k2⟩ := hsub X' r o d2
          exact DFin.sub k1 (DFin.refl ⟨⟨_, rfl⟩, X', .inr ⟨o, ho, rfl, k2, hx2⟩⟩)
end Go.Dl

-- strings.Builder at the data level: copyCheck, WriteString, String.
namespace Go.Proofs
open Go.Shelf Go.RowKit
def Tryd.lays240_ren : Go.Shelf.Ren := ⟨fun | 240 => 78 | 276 => 93 | n => n, fun | 0 => 0 | 4 => 4 | 9 => 9 | 20 => 20 | 70 => 88 | 72 => 90 | 164 => 153 | 37 => 36 | 127 => 142 | 3 => 3 | 5 => 5 | n => n, fun | n => n⟩
theorem Tryd.lays240 : Go.Proofs.Lays.n240 Tryd.prog Tryd.lays240_ren := {
  mixed := by kernel_rfl
  f240 := Tryd.func78.trans (congrArg some (by kernel_rfl))
  f276 := Tryd.func93.trans (congrArg some (by kernel_rfl))
  t0 := Tryd.underlying0
  a0 := Tryd.isAgg0
  z0 := Tryd.sizeOf0
  v0 := Tryd.zeroValue0
  t4 := Tryd.underlying4
  a4 := Tryd.isAgg4
  z4 := Tryd.sizeOf4
  v4 := Tryd.zeroValue4
  t9 := Tryd.underlying9
  a9 := Tryd.isAgg9
  z9 := Tryd.sizeOf9
  v9 := Tryd.zeroValue9
  t20 := Tryd.underlying20
  a20 := Tryd.isAgg20
  z20 := Tryd.sizeOf20
  v20 := Tryd.zeroValue20
  t70 := Tryd.underlying88
  a70 := Tryd.isAgg88
  z70 := Tryd.sizeOf88
  v70 := Tryd.zeroValue88
  t72 := Tryd.underlying90
  a72 := Tryd.isAgg90
  z72 := Tryd.sizeOf90
  v72 := Tryd.zeroValue90
  t164 := Tryd.underlying153
  a164 := Tryd.isAgg153
  z164 := Tryd.sizeOf153
  v164 := Tryd.zeroValue153 }
theorem Tryd.X72_240 : Builder.X72 Tryd.prog Tryd.lays240_ren := { sizeBuilder := by kernel_rfl, liesBuilder := by kernel_rfl }

section
variable {P : Program} {ρ : Ren}
set_option maxHeartbeats 2000000 in
set_option maxRecDepth 100000 in
/-- (*strings.Builder).String of a buffer with at least one byte: the bytes read are frozen, nothing else turns. -/
theorem builder_string_at (L : Lays.n169 P ρ) (X : Builder.Extra P ρ) (b g cap cells : Nat) (l : List UInt8) (w : World) (h0 : l ≠ []) (hl63 : l.length ≤ 9223372036854775807) (hle : l.length ≤ cap) (hc1 : w.cell? ⟨b, 1, none⟩ = some (.slice (some ⟨g, 0, none⟩) l.length cap))
    (hsh : w.shape? g = some (ρ.t 5, cells)) (hn : l.length ≤ cells) (hcell : ∀ j x, l[j]? = some x → w.cell? ((⟨g, 0, none⟩ : Addr).add j) = some (.int .u8 x.toNat)) :
    Calls P (ρ.f 169) #[.pointer (some ⟨b, 0, none⟩)] w fun e w' => e = .returned (.string ⟨l.toArray⟩) ∧ w' = w.drew.freeze ⟨g, 0, none⟩ l.length := by
  have hl0 : l.length ≠ 0 := by simpa using h0
  have c1 : w.drew.cell? ⟨b, 1, none⟩ = some (.slice (some ⟨g, 0, none⟩) l.length cap) := hc1
  have hSD : (Builtin.unsafeSliceData_ #[(ρ.t 37)] (ρ.t 127) #[.slice (some ⟨g, 0, none⟩) l.length cap]).run P w.drew = .ok (.pointer (some ⟨g, 0, none⟩)) w.drew :=
    Lib.run_unsafeSliceData_row _ _ _ _ _ _ (by omega)
  have hUS : (Builtin.unsafeString_ #[(ρ.t 127), (ρ.t 3)] (ρ.t 9) #[.pointer (some ⟨g, 0, none⟩), .int .i64 l.length]).run P w.drew = .ok (.string ⟨l.toArray⟩) (w.drew.freeze ⟨g, 0, none⟩ l.length) :=
    Lib.run_unsafeString_row w.drew (ρ.t 127) (ρ.t 3) (ρ.t 9) (ρ.t 5) L.t127 X.cellsByte g cells hsh l h0 hn hl63 hcell
  have mixed := L.mixed
  have t72 := L.t72; have a72 := L.a72; have z72 := L.z72; have v72 := L.v72; have u72 := run_underlying L.t72
  have t70 := L.t70; have a70 := L.a70; have z70 := L.z70; have v70 := L.v70; have u70 := run_underlying L.t70
  have t37 := L.t37; have a37 := L.a37; have z37 := L.z37; have v37 := L.v37; have u37 := run_underlying L.t37
  have t127 := L.t127; have a127 := L.a127; have z127 := L.z127; have v127 := L.v127; have u127 := run_underlying L.t127
  have t3 := L.t3; have a3 := L.a3; have z3 := L.z3; have v3 := L.v3; have u3 := run_underlying L.t3
  have t9 := L.t9; have a9 := L.a9; have z9 := L.z9; have v9 := L.v9; have u9 := run_underlying L.t9
  have t5 := X.t5; have a5 := X.a5; have z5 := X.z5; have v5 := X.v5; have u5 := run_underlying X.t5
  go_enter L.f169, Body.n169_ntmps ρ
  go_wp2
  go_region_o
  all_goals (go_wp2; go_ret; exact ⟨rfl, rfl⟩)
set_option maxHeartbeats 2000000 in
set_option maxRecDepth 100000 in
/-- .. of a buffer that is nil. -/
theorem builder_string_nil (L : Lays.n169 P ρ) (X : Builder.Extra P ρ) (b : Nat) (w : World) (hc1 : w.cell? ⟨b, 1, none⟩ = some (.slice none 0 0)) :
    Calls P (ρ.f 169) #[.pointer (some ⟨b, 0, none⟩)] w fun e w' => e = .returned (.string ⟨#[]⟩) ∧ w' = w.drew := by
  have hUS := Any.unsafeString_none L X
  have c1 : w.drew.cell? ⟨b, 1, none⟩ = some (.slice none 0 0) := hc1
  have hSD : (Builtin.unsafeSliceData_ #[(ρ.t 37)] (ρ.t 127) #[.slice none 0 0]).run P w.drew = .ok (.pointer none) w.drew := rfl
  have mixed := L.mixed
  have t72 := L.t72; have a72 := L.a72; have z72 := L.z72; have v72 := L.v72; have u72 := run_underlying L.t72
  have t70 := L.t70; have a70 := L.a70; have z70 := L.z70; have v70 := L.v70; have u70 := run_underlying L.t70
  have t37 := L.t37; have a37 := L.a37; have z37 := L.z37; have v37 := L.v37; have u37 := run_underlying L.t37
  have t127 := L.t127; have a127 := L.a127; have z127 := L.z127; have v127 := L.v127; have u127 := run_underlying L.t127
  have t3 := L.t3; have a3 := L.a3; have z3 := L.z3; have v3 := L.v3; have u3 := run_underlying L.t3
  have t9 := L.t9; have a9 := L.a9; have z9 := L.z9; have v9 := L.v9; have u9 := run_underlying L.t9
  have t5 := X.t5; have a5 := X.a5; have z5 := X.z5; have v5 := X.v5; have u5 := run_underlying X.t5
  go_enter L.f169, Body.n169_ntmps ρ
  go_wp2
  go_region_o
  all_goals (go_wp2; go_ret; exact ⟨rfl, rfl⟩)
end
theorem rowAt_more {P : Program} {fits : TypeId → Bool} {d : Nat} {e : TypeId} {count : Nat} (h : 1 ≤ count) (hr : rowAt P fits (d + 1) e 1 0 1 = true) : rowAt P fits (d + 1) e count 0 1 = true := by
  unfold rowAt at hr ⊢
  simp only [Nat.zero_div, Nat.zero_mod, Nat.zero_add] at hr ⊢
  split at hr
  · cases hr
  · rename_i hs
    rw [if_neg hs]
    have h1 : decide (1 ≤ count) = true := decide_eq_true h
    have h2 : decide (0 < count) = true := decide_eq_true (by omega)
    rw [h1, h2]
    exact hr
theorem liesAt_more {P : Program} {d : Nat} {e : TypeId} {count : Nat} (h : 1 ≤ count) (hd : P.depth = d + 1) (hr : rowAt P (sameLayout P P.depth · e) P.depth e 1 0 1 = true) : liesAt P P.depth e count 0 e 1 = true := by
  have : rowAt P (sameLayout P P.depth · e) P.depth e count 0 1 = true := by
    generalize hf : (sameLayout P P.depth · e) = fits at hr ⊢
    rw [hd] at hr ⊢
    exact rowAt_more h hr
  conv => lhs; rw [hd]
  unfold liesAt
  rw [this]; rfl
section
variable {P : Program} {ρ : Ren}
set_option maxHeartbeats 2000000 in
set_option maxRecDepth 100000 in
/-- copyCheck at a fresh builder. -/
theorem copyCheck_fresh_at (L : Lays.n240 P ρ) (X : Builder.X72 P ρ) (b n : Nat) (w : World) (h0 : w.cell? ⟨b, 0, none⟩ = some (.pointer none)) (hsh : w.shape? b = some ((ρ.t 72), n)) (hn : 0 < n)
    (hlies : liesAt P P.depth (ρ.t 72) (n / P.cellsOf (ρ.t 72)) 0 (ρ.t 72) 1 = true) (hfz : w.frozen? ⟨b, 0, none⟩ = false) :
    Calls P (ρ.f 240) #[.pointer (some ⟨b, 0, none⟩)] w fun e w' => e = .returned (.tuple #[]) ∧ w' = w.setCell ⟨b, 0, none⟩ (.pointer (some ⟨b, 0, none⟩)) := by
  obtain ⟨j, hj, hjs⟩ := Option.map_eq_some_iff.1 X.sizeBuilder
  have mixed := L.mixed
  have t72 := L.t72; have a72 := L.a72; have z72 := L.z72; have v72 := L.v72; have u72 := run_underlying L.t72
  have t70 := L.t70; have a70 := L.a70; have z70 := L.z70; have v70 := L.v70; have u70 := run_underlying L.t70
  have t9 := L.t9; have a9 := L.a9; have z9 := L.z9; have v9 := L.v9; have u9 := run_underlying L.t9
  have t4 := L.t4; have a4 := L.a4; have z4 := L.z4; have v4 := L.v4; have u4 := run_underlying L.t4
  have t164 := L.t164; have a164 := L.a164; have z164 := L.z164; have v164 := L.v164; have u164 := run_underlying L.t164
  go_enter L.f240, Body.n240_ntmps ρ
  go_wp2
  rw [Lib.run_to_unsafe w ⟨b, 0, none⟩ L.t70 L.t164 hj (by rw [hjs]; decide) hsh hn]
  simp only [Result.andThen]
  rw [Oper.upon_value]
  go_wp2
  rw [run_callFunc_extern L.f276 (by kernel_rfl) (by kernel_rfl) (by kernel_rfl) (e := Extern.AbiNoEscape.same) (by kernel_rfl)]
  rw [Lib.run_noEscape]
  simp only [Result.andThen]
  rw [Oper.upon_value]
  go_wp2
  rw [Lib.run_from_unsafe w ⟨b, 0, none⟩ L.t164 L.t70 hj hsh hlies]
  simp only [Result.andThen]
  rw [Oper.upon_value]
  go_wp2
  go_end0
  exact ⟨rfl, rfl⟩
end
end Go.Proofs


-- strings.Builder at the data level.
namespace Go.Dl
open Go Go.Proofs Go.RowKit
set_option maxRecDepth 10000
attribute [go_sem] List.getElem?_toArray List.getElem?_cons_zero List.getElem?_cons_succ List.append_eq

/-- The bytes of a string as cells. -/
def dBy (l : List UInt8) : List DVal := l.map fun b => .int .u8 b.toNat
theorem dBy_length (l : List UInt8) : (dBy l).length = l.length := by simp [dBy]
theorem dBy_append (l m : List UInt8) : dBy (l ++ m) = dBy l ++ dBy m := by simp [dBy]
theorem dBy_one (l : List UInt8) : (dBy l).all (fun d => d.one) = true := by simp [dBy, DVal.one]
theorem str_dBy (l : List UInt8) : (l.map fun b : UInt8 => DVal.int .u8 b.toNat) = dBy l := rfl

theorem run_store1 {P : Program} {w : World} {r off : Nat} {c : Array Value} {e : TypeId} {fz : Nat × Nat} {x : Value} (hc : w.heap[r]? = some (.cells c e fz)) (hi : off < c.size) (h1 : x.oneCell' = true) (hf : ∀ j, j < c.size → ¬ (fz.1 ≤ j ∧ j < fz.2)) :
    (storeCells ⟨r, off, none⟩ [x] 0).run P w = .ok () (w.setCell ⟨r, off, none⟩ x) := by
  have hcell : w.cell? ⟨r, off, none⟩ = some c[off] := by simp [World.cell?, hc, hi]
  have hfr : w.frozen? ⟨r, off, none⟩ = false := by
    have := hf off hi
    obtain ⟨lo, hi'⟩ := fz
    simp [World.frozen?, hc]
    intro h2
    have := fun h3 => this ⟨h2, h3⟩
    simp at this; omega
  simp only [storeCells, Sem.run_bind, add_lit, Nat.add_zero, run_store P w _ x _ h1, hcell, hfr]
  rfl
theorem setCell_own {P : Program} {w : World} {H : DHeap} (hH : SimHeap w H) {r off : Nat} {cs : List DVal} {d : DVal} {e : TypeId} (hr : H r = some (.cells cs e)) {x : Value} (hx : Rel w H d x) (h1 : d.one = true) (hle : off < cs.length) :
    SimHeap (w.setCell ⟨r, off, none⟩ x) (upd H r (some (.cells (splice cs off [d]) e))) ∧ Ext H w (upd H r (some (.cells (splice cs off [d]) e))) (w.setCell ⟨r, off, none⟩ x) := by
  have hv : RelL w H [d] [x] := by simp only [RelL]; exact ⟨x, [], rfl, hx, rfl⟩
  have ha : [d].all (·.one) = true := by simp [h1]
  obtain ⟨w', hrun, k1, k2⟩ := store_own (P := P) (off := off) hH hr hv ha (by simp; omega)
  obtain ⟨xs, c, fz, g1, g2, g3, g4⟩ := hH r _ hr
  have hlx := g3.length
  have hsz : xs.length ≤ c.size := by obtain ⟨t, ht⟩ := g2; rw [← Array.length_toList, ← ht]; simp
  have := run_store1 (P := P) (x := x) g1 (off := off) (by omega) (relL_one hv ha x (by simp)) g4
  rw [hrun] at this
  cases this
  exact ⟨k1, k2⟩

variable {G : Nat → DVal} {H : DHeap}
theorem lies_builder : Go.rowAt Tryd.prog (Go.sameLayout Tryd.prog Tryd.prog.depth · 90) Tryd.prog.depth 90 1 0 1 = true := by kernel_rfl
theorem cells_builder : Tryd.prog.cellsOf 90 = 2 := by kernel_rfl
theorem depth_builder : ∃ d, Tryd.prog.depth = d + 1 := ⟨Tryd.prog.depth - 1, by kernel_rfl⟩
theorem copyCheck_fresh {b : Nat} {v : DVal} (hr : H b = some (.cells [.nilPtr, v] 90)) :
    DCalls Tryd.prog G 78 [.optr b 0] H (fun e H' => e = .ret (.tuple []) ∧ H' = upd H b (some (.cells [.optr b 0, v] 90))) := by
  refine ⟨Tryd.call78, fun vs w hv hH hG => ?_⟩
  simp only [RelL, Rel] at hv
  obtain ⟨y, ys, rfl, rfl, rfl⟩ := hv
  obtain ⟨xs, c, fz, g1, g2, g3, g4⟩ := hH b _ hr
  simp only [RelL, Rel] at g3
  obtain ⟨y0, ys0, rfl, rfl, y1, ys1, rfl, g5, rfl⟩ := g3
  have hsz : 2 ≤ c.size := by obtain ⟨t, ht⟩ := g2; rw [← Array.length_toList, ← ht]; simp
  have hc0 : w.cell? ⟨b, 0, none⟩ = some (.pointer none) := by
    obtain ⟨t, ht⟩ := g2
    have : c.toList[0]? = some (.pointer none) := by rw [← ht]; rfl
    simp [World.cell?, g1]; simpa using this
  have hf0 : w.frozen? ⟨b, 0, none⟩ = false := by
    have := g4 0 (by omega)
    obtain ⟨lo, hi'⟩ := fz
    simp [World.frozen?, g1]
    intro h2
    have := fun h3 => this ⟨by omega, h3⟩
    simp at this; omega
  obtain ⟨d, hd⟩ := depth_builder
  have hl : liesAt Tryd.prog Tryd.prog.depth 90 (c.size / Tryd.prog.cellsOf 90) 0 90 1 = true :=
    liesAt_more (by rw [cells_builder]; omega) hd lies_builder
  refine (copyCheck_fresh_at Tryd.lays240 Tryd.X72_240 b c.size w hc0 (by simp [World.shape?, g1]; rfl) (by omega) hl hf0).mono ?_
  rintro e w' ⟨rfl, rfl⟩
  obtain ⟨k1, k2⟩ := setCell_own (P := Tryd.prog) hH hr (off := 0) (d := .optr b 0) (x := .pointer (some ⟨b, 0, none⟩)) (by simp [Rel]) rfl (by simp)
  exact ⟨_, _, ⟨rfl, rfl⟩, .ret _ _ (by simp [Rel, RelL]), k1, k2⟩
theorem copyCheck_used {b : Nat} {v : DVal} (hr : H b = some (.cells [.optr b 0, v] 90)) :
    DCalls Tryd.prog G 78 [.optr b 0] H (DRet (.tuple []) H) := by
  refine ⟨Tryd.call78, fun vs w hv hH hG => ?_⟩
  simp only [RelL, Rel] at hv
  obtain ⟨y, ys, rfl, rfl, rfl⟩ := hv
  obtain ⟨xs, g3, g4⟩ := hH.holds hr
  simp only [RelL, Rel] at g3
  obtain ⟨y0, ys0, rfl, rfl, y1, ys1, rfl, g5, rfl⟩ := g3
  refine (Any.Builder_copyCheck_used Tryd.lays240 Tryd.X72_240 b w (by simpa using g4 0 _ rfl)).mono ?_
  rintro e w' ⟨rfl, rfl⟩
  exact ⟨_, _, ⟨rfl, rfl⟩, .ret _ _ (by simp [Rel, RelL]), hH, Ext.refl _ _⟩

section
variable {H' : DHeap} {e : TypeId} {size n : Nat} {cs : List DVal} {v : DVal}
theorem OwnJ.rebl {q : Nat} {o o' : DObj} (h : OwnJ (upd H q (some o)) e size n cs v H') : OwnJ (upd H q (some o')) e size n cs v (upd H' q (some o')) := by
  have hs : ∀ {H'' : DHeap}, Sub (upd H q (some o)) H'' → Sub (upd H q (some o')) (upd H'' q (some o')) := fun k r x hx => by
    by_cases e : r = q
    · subst e; rw [upd_same] at hx ⊢; exact hx
    · simp only [upd, if_neg e] at hx ⊢; exact k r x (by simp only [upd, if_neg e]; exact hx)
  rcases h with ⟨a, b, c, d⟩ | ⟨r, a, b, c, d, f⟩
  · exact .inl ⟨a, b, c, hs d⟩
  · have : r ≠ q := fun e => by subst e; rw [upd_same] at a; cases a
    exact .inr ⟨r, by simp only [upd, if_neg this] at a ⊢; exact a, b, c, by simp only [upd, if_neg this]; exact d, hs f⟩
end

/-- A builder in block b, over the memory H, with the bytes l. -/
structure Bld (H : DHeap) (b : Nat) (l : List UInt8) (H' : DHeap) : Prop where
  no : H b = none
  has : ∃ p v, (p = .nilPtr ∨ p = .optr b 0) ∧ (l = [] → v = .nilSlice) ∧ OwnJ (upd H b (some (.cells [p, v] 90))) 5 1 l.length (dBy l) v H'
theorem Bld.new {b : Nat} (h : H b = none) : Bld H b [] (upd H b (some (.cells [.nilPtr, .nilSlice] 90))) :=
  ⟨h, .nilPtr, .nilSlice, .inl rfl, fun _ => rfl, OwnJ.nil _ _ (Sub.refl _)⟩
theorem Bld.sub {H' : DHeap} {b : Nat} {l : List UInt8} (h : Bld H b l H') : Sub H H' := by
  obtain ⟨h1, p, v, _, _, h4⟩ := h
  exact ((Sub.refl H).up h1 _).trans h4.sub
theorem Bld.more {H' H2 : DHeap} {b : Nat} {l : List UInt8} (h : Bld H b l H') (k : Sub H' H2) : Bld H b l H2 := by
  obtain ⟨h1, p, v, h2, h3, h4⟩ := h
  exact ⟨h1, p, v, h2, h3, h4.more k⟩
theorem Bld.less {H' H1 : DHeap} {b : Nat} {l : List UInt8} (h : Bld H b l H') (k : Sub H1 H) : Bld H1 b l H' := by
  obtain ⟨h1, p, v, h2, h3, h4⟩ := h
  exact ⟨k.lo h1, p, v, h2, h3, h4.less (k.both _ _)⟩
theorem Bld.frame {H' : DHeap} {b r : Nat} {l : List UInt8} (h : Bld H b l H') (hr : H' r = none) (o : DObj) : Bld (upd H r (some o)) b l (upd H' r (some o)) := by
  obtain ⟨h1, p, v, h2, h3, h4⟩ := h
  have hb : b ≠ r := fun e => by
    have := h4.keep (r := b) (upd_same _ _ _)
    rw [e, hr] at this; cases this
  refine ⟨by simp [upd, hb, h1], p, v, h2, h3, ?_⟩
  have := h4.frame hr o
  rwa [upd_swap hb.symm] at this

theorem writeString_spec {H0 : DHeap} {b : Nat} {l : List UInt8} (s : List UInt8) (h : Bld H b l H0) (hl : l.length + s.length ≤ 35184372088832) :
    DCalls Tryd.prog G 52 [.optr b 0, .str s] H0 (fun e H1 => e = .ret (.tuple [dI s.length, .nilIface]) ∧ Bld H b (l ++ s) H1) := by
  obtain ⟨h1, p, v, hp, hnil, hv⟩ := h
  have hb0 := hv.keep (r := b) (upd_same _ _ _)
  have hlast : ∀ H2 v2 p', (p' = .nilPtr ∨ p' = .optr b 0) → (l ++ s = [] → v2 = .nilSlice) → OwnJ (upd H b (some (.cells [p', v] 90))) 5 1 (l.length + s.length) (dBy l ++ dBy s) v2 H2 → Bld H b (l ++ s) (upd H2 b (some (.cells [p', v2] 90))) := fun H2 v2 p' q1 q2 q3 => by
    refine ⟨h1, p', v2, q1, q2, ?_⟩
    have := q3.rebl (o' := .cells [p', v2] 90)
    rw [List.length_append, dBy_append]
    exact this
  have hone := hv.cell1
  have happ : ∀ {dst : Option Nat} {K : DK} {env : Nat → DVal} {p' : DVal} {H1 : DHeap}, OwnJ (upd H b (some (.cells [p', v] 90))) 5 1 l.length (dBy l) v H1 →
      (∀ v2 H2, (l ++ s = [] → v2 = .nilSlice) → OwnJ (upd H b (some (.cells [p', v] 90))) 5 1 (l.length + s.length) (dBy l ++ dBy s) v2 H2 → K ⟨updO env dst v2, H2⟩) → dAppendTo 5 1 1 s.length (dBy s) dst v K ⟨env, H1⟩ := by
    intro dst K env p' H1 q hK
    by_cases hs : l ++ s = []
    · simp only [List.append_eq_nil_iff] at hs
      obtain ⟨rfl, rfl⟩ := hs
      have hv0 := hnil rfl
      subst hv0
      simp only [dAppendTo, List.length_nil]
      exact ⟨fun _ => hK _ _ (fun _ => rfl) (by simpa [dBy] using q), fun h => absurd rfl h⟩
    · exact OwnJ.append q (by rw [dBy_length]; omega) (by omega) fun v2 H2 q2 => hK v2 H2 (fun e => absurd e hs) q2
  refine dcalls_intro Tryd.func52 Tryd.call52 rfl (by kernel_rfl) ?_
  simp (disch := omega) only [go_sem, Nat.reduceEqDiff, Nat.reduceAdd, Nat.reduceMul, Nat.reduceSub, Nat.reduceLeDiff, ↓reduceIte, reduceCtorEq, Int.reduceAdd, Int.reduceSub, Int.reduceMul, Int.reduceNeg, Int.reduceToNat, List.reduceReplicate, String.reduceEq]
  rcases hp with rfl | rfl
  · refine (copyCheck_fresh hb0).mono ?_
    rintro _ H1 ⟨rfl, rfl⟩
    simp (disch := omega) only [go_sem, Nat.reduceEqDiff, Nat.reduceAdd, Nat.reduceMul, Nat.reduceSub, Nat.reduceLeDiff, ↓reduceIte, reduceCtorEq, Int.reduceAdd, Int.reduceSub, Int.reduceMul, Int.reduceNeg, Int.reduceToNat, List.reduceReplicate, String.reduceEq, str_dBy, dBy_length, dBy_one]
    refine happ (OwnJ.rebl hv) fun v2 H2 q1 q2 => ?_
    have hb2 := q2.keep (r := b) (upd_same _ _ _)
    have c2 := q2.cell1
    simp (disch := omega) only [go_sem, Nat.reduceEqDiff, Nat.reduceAdd, Nat.reduceMul, Nat.reduceSub, Nat.reduceLeDiff, ↓reduceIte, reduceCtorEq, Int.reduceAdd, Int.reduceSub, Int.reduceMul, Int.reduceNeg, Int.reduceToNat, List.reduceReplicate, String.reduceEq, hb2, c2.1, c2.2, List.all_cons, List.all_nil]
    exact DFin.refl ⟨rfl, hlast _ _ _ (.inr rfl) q1 q2⟩
  · refine (copyCheck_used hb0).mono ?_
    rintro _ H1 ⟨rfl, rfl⟩
    simp (disch := omega) only [go_sem, Nat.reduceEqDiff, Nat.reduceAdd, Nat.reduceMul, Nat.reduceSub, Nat.reduceLeDiff, ↓reduceIte, reduceCtorEq, Int.reduceAdd, Int.reduceSub, Int.reduceMul, Int.reduceNeg, Int.reduceToNat, List.reduceReplicate, String.reduceEq, hb0, str_dBy, dBy_length, dBy_one]
    refine happ hv fun v2 H2 q1 q2 => ?_
    have hb2 := q2.keep (r := b) (upd_same _ _ _)
    have c2 := q2.cell1
    simp (disch := omega) only [go_sem, Nat.reduceEqDiff, Nat.reduceAdd, Nat.reduceMul, Nat.reduceSub, Nat.reduceLeDiff, ↓reduceIte, reduceCtorEq, Int.reduceAdd, Int.reduceSub, Int.reduceMul, Int.reduceNeg, Int.reduceToNat, List.reduceReplicate, String.reduceEq, hb2, c2.1, c2.2, List.all_cons, List.all_nil]
    exact DFin.refl ⟨rfl, hlast _ _ _ (.inr rfl) q1 q2⟩

theorem string_spec {H0 : DHeap} {b : Nat} {l : List UInt8} (h : Bld H b l H0) (hl : l.length ≤ 9223372036854775807) :
    DCalls Tryd.prog G 54 [.optr b 0] H0 (fun e H1 => e = .ret (.str l) ∧ Sub H H1) := by
  obtain ⟨h1, p, v, hp, hnil, hv⟩ := h
  have hb0 := hv.keep (r := b) (upd_same _ _ _)
  refine ⟨Tryd.call54, fun vs w hvs hH hG => ?_⟩
  simp only [RelL, Rel] at hvs
  obtain ⟨y, ys, rfl, rfl, rfl⟩ := hvs
  obtain ⟨xs, g3, g4⟩ := hH.holds hb0
  simp only [RelL] at g3
  obtain ⟨y0, ys0, rfl, gp, y1, ys1, rfl, g5, rfl⟩ := g3
  have hc1 : w.cell? ⟨b, 1, none⟩ = some y1 := by simpa using g4 1 _ rfl
  by_cases hl0 : l = []
  · have hv0 := hnil hl0
    subst hv0; subst hl0
    simp only [Rel] at g5
    subst g5
    refine (builder_string_nil Tryd.lays169 Tryd.Builder_Extra_169 b w hc1).mono ?_
    rintro e w' ⟨rfl, rfl⟩
    obtain ⟨k1, k2⟩ := (Quiet.drewN w 1).ext hH
    exact ⟨.ret (.str []), H0, ⟨rfl, ((Sub.refl H).up h1 _).trans hv.sub⟩, .ret _ _ (by simp [Rel]), k1, k2⟩
  · have hne : l.length ≠ 0 := by simpa using hl0
    rcases hv with ⟨hn, _⟩ | ⟨r, hr, hlen, rfl, hr0, hsub⟩
    · exact absurd hn hne
    simp only [Rel] at g5
    obtain ⟨o, cap, rfl, k1, k2, k3, k4⟩ := g5
    have ho : o = 0 := k3.resolve_left (by omega)
    subst ho
    obtain ⟨xs, c, fz, q1, q2, q3, q4⟩ := hH r _ hr0
    have hxl := q3.length
    rw [dBy_length] at hxl
    have hsz : xs.length ≤ c.size := by obtain ⟨t, ht⟩ := q2; rw [← Array.length_toList, ← ht]; simp
    have hcell : ∀ j x, l[j]? = some x → w.cell? ((⟨r, 0, none⟩ : Addr).add j) = some (.int .u8 x.toNat) := fun j x hx => by
      obtain ⟨hj, _⟩ := List.getElem?_eq_some_iff.1 hx
      obtain ⟨z, hz, hrz⟩ := q3.get (i := j) (d := .int .u8 x.toNat) (by simp [dBy, hx])
      simp only [Rel] at hrz
      subst hrz
      obtain ⟨t, ht⟩ := q2
      have hcj : c.toList[j]? = some (.int .u8 x.toNat) := by rw [← ht, List.getElem?_append_left (by omega)]; exact hz
      rw [show (⟨r, 0, none⟩ : Addr).add j = ⟨r, j, none⟩ by cases j <;> simp [Addr.add]]
      simp [World.cell?, q1]
      simpa using hcj
    refine (builder_string_at Tryd.lays169 Tryd.Builder_Extra_169 b r cap c.size l w hl0 hl (by omega) hc1 (by simp [World.shape?, q1]; rfl) (by omega) hcell).mono ?_
    rintro e w' ⟨rfl, rfl⟩
    have hfr : ∀ b', b' ≠ r → (w.drew.freeze ⟨r, 0, none⟩ l.length).heap[b']? = w.heap[b']? := fun b' hb' => by
      simp only [World.freeze, if_neg hne, Array.getElem?_modify, if_neg (Ne.symm hb')]
      rfl
    have hE : Ext H0 w (upd H0 r none) (w.drew.freeze ⟨r, 0, none⟩ l.length) := by
      refine ⟨by simp only [World.freeze, if_neg hne]; rfl, by simp only [World.freeze, if_neg hne]; rfl, by simp only [World.freeze, if_neg hne]; rfl, by simp only [World.freeze, if_neg hne, Array.size_modify]; exact Nat.le_refl _, fun b' _ hn => hfr b' (fun e => by rw [e, hr0] at hn; cases hn), fun b' hb' => .inl (by simp only [upd] at hb'; split at hb' <;> simp_all), fun b' _ => ?_, fun a _ hn => ?_⟩
      · by_cases e1 : b' = r
        · subst e1
          have : (w.drew.freeze ⟨b', 0, none⟩ l.length).heap[b']? = (w.heap[b']?).map fun | .cells c elem (lo, hi) => .cells c elem (if lo == hi then (0, 0 + l.length) else (min lo 0, max hi (0 + l.length))) | o => o := by
            simp only [World.freeze, if_neg hne, Array.getElem?_modify, if_true]; rfl
          rw [this, q1]; rfl
        · rw [hfr b' e1]
      · have e1 : a.block ≠ r := fun e => by rw [e, hr0] at hn; cases hn
        unfold World.frozen?
        rw [hfr _ e1]
    refine ⟨.ret (.str l), upd H0 r none, ⟨rfl, fun b' o' hb' => ?_⟩, .ret _ _ (by simp only [Rel]), fun b' o' hb' => ?_, hE⟩
    · have hbb : b' ≠ b := fun e => by rw [e, h1] at hb'; cases hb'
      have hrr : b' ≠ r := fun e => by rw [← e] at hr; simp only [upd, if_neg hbb] at hr; rw [hr] at hb'; cases hb'
      simp only [upd, if_neg hrr]
      exact hsub b' o' (by simp only [upd, if_neg hbb]; exact hb')
    · have hrr : b' ≠ r := fun e => by subst e; simp [upd] at hb'
      simp only [upd, if_neg hrr] at hb'
      rw [hfr b' hrr]
      exact (hH b' o' hb').lasts hE.lasts
end Go.Dl

-- Chapter 30: Text, Read of clock.
namespace Go.Dl
open Go Go.Proofs
set_option maxRecDepth 10000

theorem textC_spec {G : Nat → DVal} (hG : G 1 = .vptr dRows 0) (hG2 : G 3 = .vptr dPw 0) (H : DHeap) (c : List Int) (hc : c.length = 58) :
    DCalls Tryd.prog G 25 [dCs c] H (DRet (.tuple [.str (textCD c).1, dI (textCD c).2]) H) := by
  have hlen : (c.map dI).length = 58 := by rw [List.length_map, hc]
  have htk : (c.map dI).take 58 = c.map dI := List.take_of_length_le (by omega)
  refine dcalls_intro Tryd.func25 Tryd.call25 rfl (by kernel_rfl) ?_
  simp (disch := omega) only [go_sem, Nat.reduceEqDiff, Nat.reduceAdd, Nat.reduceMul, Nat.reduceSub, Nat.reduceLeDiff, ↓reduceIte, reduceCtorEq, Int.reduceAdd, Int.reduceSub, Int.reduceMul, Int.reduceNeg, Int.reduceToNat, List.reduceReplicate, String.reduceEq, dCs, DVal.cells]
  intro r hr; dsimp only at hr
  simp (disch := omega) only [go_sem, Nat.reduceEqDiff, Nat.reduceAdd, Nat.reduceMul, Nat.reduceSub, Nat.reduceLeDiff, ↓reduceIte, reduceCtorEq, Int.reduceAdd, Int.reduceSub, Int.reduceMul, Int.reduceNeg, Int.reduceToNat, List.reduceReplicate, String.reduceEq, hlen, htk]
  rw [show DVal.agg (c.map dI) = dCs c from rfl]
  refine (cmay_spec G (upd H r (some (DObj.cells (c.map dI) 23))) c hc).mono ?_
  rintro _ H1 ⟨rfl, rfl⟩
  cases hm : mayC c with
  | false =>
    simp (disch := omega) only [go_sem, Nat.reduceEqDiff, Nat.reduceAdd, Nat.reduceMul, Nat.reduceSub, Nat.reduceLeDiff, ↓reduceIte, reduceCtorEq, Int.reduceAdd, Int.reduceSub, Int.reduceMul, Int.reduceNeg, Int.reduceToNat, List.reduceReplicate, String.reduceEq]
    exact DFin.dropA r hr (DFin.refl ⟨by rw [textCD, hm]; rfl, rfl⟩)
  | true =>
    simp (disch := omega) only [go_sem, Nat.reduceEqDiff, Nat.reduceAdd, Nat.reduceMul, Nat.reduceSub, Nat.reduceLeDiff, ↓reduceIte, reduceCtorEq, Int.reduceAdd, Int.reduceSub, Int.reduceMul, Int.reduceNeg, Int.reduceToNat, List.reduceReplicate, String.reduceEq]
    intro b hb; dsimp only at hb
    simp (disch := omega) only [go_sem, Nat.reduceEqDiff, Nat.reduceAdd, Nat.reduceMul, Nat.reduceSub, Nat.reduceLeDiff, ↓reduceIte, reduceCtorEq, Int.reduceAdd, Int.reduceSub, Int.reduceMul, Int.reduceNeg, Int.reduceToNat, List.reduceReplicate, String.reduceEq]
    obtain ⟨I, hI⟩ : ∃ I : Nat → (Nat → DVal) → DHeap → Prop, ∀ i env heap, I i env heap ↔ (env 1 = .optr r 0 ∧ env 4 = .optr b 0 ∧ env 5 = .int .u8 (((i + 1 : Nat)) : Int) ∧ i ≤ 57 ∧ Bld (upd H r (some (DObj.cells (c.map dI) 23))) b (textCi c i) heap) := ⟨_, fun _ _ _ => Iff.rfl⟩
    refine DLoop.run I (fun i => 57 - i) 0 ((hI _ _ _).2 ?_) ?_
    · simp (disch := omega) only [go_sem, Nat.reduceEqDiff, Nat.reduceAdd, Nat.reduceMul, Nat.reduceSub, Nat.reduceLeDiff, ↓reduceIte, reduceCtorEq, Int.reduceAdd, Int.reduceSub, Int.reduceMul, Int.reduceNeg, Int.reduceToNat, List.reduceReplicate, String.reduceEq]
      (repeat' apply And.intro) <;> (try first | rfl | assumption | omega)
      exact Bld.new hb
    · intro i env heap hi
      obtain ⟨e1, e4, e5, hi1, hB⟩ := (hI _ _ _).1 hi
      have htl := textCi_len hc hm hi1
      have hrc := hB.sub r _ (upd_same _ _ _)
      by_cases hlt : i < 57
      · have hlt' : (((i + 1 : Nat)) : Int) < 58 := by omega
        have hget := cget hc (i := i + 1) (by omega)
        have hcv := mayC_at hc hm (o := i + 1) (by omega) (by omega)
        have hil := itoa_len (n := c.getD (i + 1) 0) ⟨by omega, by omega⟩
        have hnl := (nameC_chars (o := i + 1) (by omega) (by omega)).2.1
        have hrow : (rowAt ((i + 1 : Nat) : Int)).1 = nameC (i + 1) := by
          rw [rowAt_name, if_pos (by simp [isO]; omega)]; rfl
        have hlc : lineC c (i + 1) = nameC (i + 1) ++ [32] ++ Lib.itoa (c.getD (i + 1) 0) ++ [10] := by rw [lineC]; simp
        have hts := textCi_succ c i
        rw [hlc] at hts
        have hw : IntKind.u8.wrap (((i + 1 : Nat) : Int) + 1) = ((i + 1 + 1 : Nat) : Int) := by rw [IntKind.wrap_u8]; omega
        simp (disch := omega) only [go_sem, Nat.reduceEqDiff, Nat.reduceAdd, Nat.reduceMul, Nat.reduceSub, Nat.reduceLeDiff, ↓reduceIte, reduceCtorEq, Int.reduceAdd, Int.reduceSub, Int.reduceMul, Int.reduceNeg, Int.reduceToNat, List.reduceReplicate, String.reduceEq, e1, e4, e5, hlt']
        refine (name_spec hG heap ((i + 1 : Nat) : Int) (by omega) (by omega)).mono ?_
        rintro _ H1 ⟨rfl, rfl⟩
        simp (disch := omega) only [go_sem, Nat.reduceEqDiff, Nat.reduceAdd, Nat.reduceMul, Nat.reduceSub, Nat.reduceLeDiff, ↓reduceIte, reduceCtorEq, Int.reduceAdd, Int.reduceSub, Int.reduceMul, Int.reduceNeg, Int.reduceToNat, List.reduceReplicate, String.reduceEq, hrow, e1, e4, e5, hrc, hlen, hget, Int.toNat_natCast, List.length_append, List.length_cons, List.length_nil]
        refine (formatInt_spec hG2 (c.getD (i + 1) 0) ⟨by omega, by omega⟩).mono ?_
        rintro _ H1 ⟨rfl, rfl⟩
        simp (disch := omega) only [go_sem, Nat.reduceEqDiff, Nat.reduceAdd, Nat.reduceMul, Nat.reduceSub, Nat.reduceLeDiff, ↓reduceIte, reduceCtorEq, Int.reduceAdd, Int.reduceSub, Int.reduceMul, Int.reduceNeg, Int.reduceToNat, List.reduceReplicate, String.reduceEq, e1, e4, e5, List.length_append, List.length_cons, List.length_nil]
        refine (writeString_spec _ hB (by simp only [List.length_append, List.length_cons, List.length_nil]; omega)).mono ?_
        rintro _ H1 ⟨rfl, hB2⟩
        simp (disch := omega) only [go_sem, Nat.reduceEqDiff, Nat.reduceAdd, Nat.reduceMul, Nat.reduceSub, Nat.reduceLeDiff, ↓reduceIte, reduceCtorEq, Int.reduceAdd, Int.reduceSub, Int.reduceMul, Int.reduceNeg, Int.reduceToNat, List.reduceReplicate, String.reduceEq, e1, e4, e5, hw]
        refine ⟨i + 1, _, GhostS.refl _, (hI _ _ _).2 ?_, by omega⟩
        simp (disch := omega) only [go_sem, Nat.reduceEqDiff, Nat.reduceAdd, Nat.reduceMul, Nat.reduceSub, Nat.reduceLeDiff, ↓reduceIte, reduceCtorEq, Int.reduceAdd, Int.reduceSub, Int.reduceMul, Int.reduceNeg, Int.reduceToNat, List.reduceReplicate, String.reduceEq, e1, e4, e5]
        (repeat' apply And.intro) <;> (try first | rfl | assumption | omega)
        rw [hts]; exact hB2
      · have : i = 57 := by omega
        subst this
        simp (disch := omega) only [go_sem, Nat.reduceEqDiff, Nat.reduceAdd, Nat.reduceMul, Nat.reduceSub, Nat.reduceLeDiff, ↓reduceIte, reduceCtorEq, Int.reduceAdd, Int.reduceSub, Int.reduceMul, Int.reduceNeg, Int.reduceToNat, List.reduceReplicate, String.reduceEq, e1, e4, e5]
        refine (string_spec hB (by omega)).mono ?_
        rintro _ H1 ⟨rfl, hs⟩
        simp (disch := omega) only [go_sem, Nat.reduceEqDiff, Nat.reduceAdd, Nat.reduceMul, Nat.reduceSub, Nat.reduceLeDiff, ↓reduceIte, reduceCtorEq, Int.reduceAdd, Int.reduceSub, Int.reduceMul, Int.reduceNeg, Int.reduceToNat, List.reduceReplicate, String.reduceEq, e1, e4, e5]
        exact DFin.sub (((Sub.refl H).up hr _).trans hs) (DFin.refl ⟨by rw [textCD, hm]; rfl, rfl⟩)

theorem dwp_rangeY {P : Program} {G : Nat → DVal} {N : Nat} {Q : DExit → DS → Prop} {g : Operand} {ps : List Tmp} {asg body : Code} {s : DS} (gf : FuncId) (captured : List DVal) (Y : DHeap) (L : List (List DVal))
    (hit : DIter P G gf captured Y L) (hg : dev G s.env g = .func (.func gf) [] captured)
    (hok : (opdOk N g && codeOk N asg && codeOk N body && flat asg && flat body) = true) (hL : ∀ x ∈ L, x.length = ps.length)
    (Hi X : DHeap) (hs : s.heap = over (over Hi Y) X) (d1 : Disj Hi X) (d2 : Disj Hi Y) (d3 : Disj Y X)
    (I : Nat → DHeap → Prop) (Ix : Code → DHeap → Prop) (i0 : I 0 X)
    (hbody : ∀ k x Hi X, Disj Hi X → L[k]? = some x → I k X → dwp P G N asg (DThen (dwp P G N body (DBodyQ Hi (I (k + 1)) Ix))) ⟨dbind s.env ps x, over Hi X⟩)
    (hdone : ∀ X, Disj Hi X → I L.length X → Q .normal ⟨s.env, over Hi X⟩)
    (hexit : ∀ c X, Disj Hi X → Ix c X → DJump Q c ⟨s.env, over Hi X⟩) : dwp P G N (.rangeFunc g ps.toArray asg body) Q s := by
  simp only [dwp]
  exact dwp0_range hg hok hit (by simpa using hL) Hi X hs d1 d2 d3 I Ix i0 (fun k x Hi X a b c => by simpa using hbody k x Hi X a b c) hdone hexit
theorem over3 (Hi : DHeap) {a b c d : Nat} (oa ob oc od : DObj) (h1 : d ≠ a) (h2 : d ≠ b) (h3 : d ≠ c) :
    upd (upd (upd (upd Hi a (some oa)) b (some ob)) c (some oc)) d (some od) = over (over Hi (upd h0 d (some od))) (upd (upd (upd h0 a (some oa)) b (some ob)) c (some oc)) := by
  funext i
  simp only [upd, over, h0]
  by_cases e : i = d
  · subst e; simp [h1, h2, h3]
  · by_cases e1 : i = c
    · simp [e, if_pos e1]
    · by_cases e2 : i = b
      · simp [e, if_neg e1, if_pos e2]
      · by_cases e3 : i = a
        · simp [e, if_neg e1, if_neg e2, if_pos e3]
        · simp [e, if_neg e1, if_neg e2, if_neg e3]

/-- The lines of a text, the line feed cut off. -/
def linesT (s : List UInt8) : List (List UInt8) := (linesG s).map fun w => Lib.trimSuffix w [10]
theorem ends_iff : ∀ (s cur : List UInt8), (linesR s cur).2 = [] ↔ (s = [] ∧ cur = []) ∨ s.getLast? = some 10
  | [], cur => by simp [linesR]
  | c :: s, cur => by
    by_cases h : c = 10
    · subst h
      rw [linesR, if_pos rfl]
      have := ends_iff s []
      simp only [this]
      cases s with
      | nil => simp
      | cons d s => simp [List.getLast?_cons_cons]
    · rw [linesR, if_neg h]
      have := ends_iff s (cur ++ [c])
      rw [this]
      cases s with
      | nil => simp [h]
      | cons d s => simp [List.getLast?_cons_cons]
theorem suffix_last (s : List UInt8) : Lib.hasSuffix s [10] = decide (s.getLast? = some 10) := by
  unfold Lib.hasSuffix
  rw [Bool.eq_iff_iff, List.isSuffixOf_iff_suffix, decide_eq_true_eq]
  constructor
  · rintro ⟨t, rfl⟩; simp
  · intro h
    obtain ⟨ys, rfl⟩ := List.getLast?_eq_some_iff.1 h
    exact ⟨ys, rfl⟩
theorem linesT_ends {s : List UInt8} (h : (linesR s []).2 = []) : linesT s = (linesR s []).1 := by
  rw [linesT, linesG, if_pos h, List.append_nil, List.map_map]
  have : ∀ w : List UInt8, ((fun w => Lib.trimSuffix w [10]) ∘ fun x => x ++ [10]) w = w := fun w => trim_lf w
  rw [show ((fun w => Lib.trimSuffix w [10]) ∘ fun x => x ++ [10]) = id from funext this]; simp
theorem foldC_take : ∀ (l : List (List UInt8)) (st st' : RdC) (k : Nat) (w : List UInt8), foldC st (l.take k) = some st' → l[k]? = some w → foldC st (l.take (k + 1)) = stepC st' w
  | [], st, st', k, w, _, h => by simp at h
  | x :: l, st, st', 0, w, h1, h2 => by
    simp only [List.take_zero, foldC, Option.some.injEq, List.getElem?_cons_zero] at h1 h2
    subst h1; subst h2
    simp only [List.take_succ_cons, List.take_zero, foldC]
    cases stepC st x <;> rfl
  | x :: l, st, st', k + 1, w, h1, h2 => by
    simp only [List.take_succ_cons, foldC, List.getElem?_cons_succ] at h1 h2 ⊢
    cases hs : stepC st x with
    | none => rw [hs] at h1; cases h1
    | some st1 =>
      rw [hs] at h1
      exact foldC_take l st1 st' k w h1 h2
theorem foldC_none : ∀ (l : List (List UInt8)) (st : RdC) (k : Nat), foldC st (l.take k) = none → foldC st l = none
  | [], st, k, h => by simpa using h
  | x :: l, st, 0, h => by simp [foldC] at h
  | x :: l, st, k + 1, h => by
    simp only [List.take_succ_cons, foldC] at h ⊢
    cases hs : stepC st x with
    | none => rfl
    | some st1 => rw [hs] at h; exact foldC_none l st1 k h
/-- What Read returns. -/
def readCD (s : List UInt8) : List Int × Int := match readC s with | some c => (c, 0) | none => (zeroC, 5)
theorem readCD_none {s : List UInt8} (h : readC s = none) : readCD s = (zeroC, 5) := by rw [readCD, h]
theorem read_bad {s : List UInt8} {k : Nat} {st : RdC} {w : List UInt8} (h1 : foldC (rd0 58) ((linesT s).take k) = some st) (h2 : (linesT s)[k]? = some w) (h3 : stepC st w = none) : readC s = none := by
  rw [readC, rdC]
  split
  · rename_i he
    have := foldC_none (linesT s) (rd0 58) (k + 1) (by rw [foldC_take _ _ _ _ _ h1 h2, h3])
    rw [linesT_ends he] at this
    rw [this]; rfl
  · rfl
theorem read_good {s : List UInt8} {st : RdC} (h1 : foldC (rd0 58) (linesT s) = some st) : readC s = if (linesR s []).2 = [] then some st.c else none := by
  rw [readC, rdC]
  split
  · rename_i he
    rw [linesT_ends he] at h1
    rw [h1]; rfl
  · rfl
theorem stepC_len {st st' : RdC} {w : List UInt8} (h : stepC st w = some st') (hc : st.c.length = 58) (hs : st.seen.length = 58) : st'.c.length = 58 ∧ st'.seen.length = 58 := by
  unfold stepC at h
  split at h
  · split at h
    · cases h
    · cases h; simp [hc, hs]
  · cases h

theorem linesR_len : ∀ (s cur : List UInt8), (∀ w ∈ (linesR s cur).1, w.length + 1 ≤ s.length + cur.length) ∧ (linesR s cur).2.length ≤ s.length + cur.length
  | [], cur => by simp [linesR]
  | c :: s, cur => by
    rw [linesR]
    split
    · obtain ⟨h1, h2⟩ := linesR_len s []
      simp at h1 h2
      refine ⟨fun w hw => ?_, by simp; omega⟩
      rcases List.mem_cons.1 hw with rfl | hw
      · simp; omega
      · have := h1 w hw; simp; omega
    · obtain ⟨h1, h2⟩ := linesR_len s (cur ++ [c])
      simp at h1 h2
      exact ⟨fun w hw => by have := h1 w hw; simp; omega, by simp; omega⟩
theorem linesG_len (s : List UInt8) (w : List UInt8) (h : w ∈ linesG s) : w.length ≤ s.length := by
  obtain ⟨h1, h2⟩ := linesR_len s []
  simp at h1 h2
  rw [linesG, List.mem_append] at h
  rcases h with h | h
  · obtain ⟨u, hu, rfl⟩ := List.mem_map.1 h
    have := h1 u hu; simp; omega
  · split at h
    · cases h
    · rw [List.mem_singleton] at h; subst h; exact h2
theorem trim_len (w : List UInt8) : (Lib.trimSuffix w [10]).length ≤ w.length := by
  rw [Lib.trimSuffix]; split
  · simp
  · exact Nat.le_refl _
theorem rest_len (s : List UInt8) : (restOf s).length ≤ s.length := by
  rw [restOf, Lib.cut]; split
  · simp
  · simp
set_option maxHeartbeats 4000000 in
theorem read_spec {G : Nat → DVal} (hG : G 1 = .vptr dRows 0) (hG2 : G 3 = .vptr dPw 0) (hG3 : G 0 = .vptr (defC.map dI) 0) (hT : GT G) (H : DHeap) (s : List UInt8) (hs : s.length ≤ 1000000) :
    DCalls Tryd.prog G 27 [.str s] H (DRet (.tuple [dCs (readCD s).1, dI (readCD s).2]) H) := by
  have hz : [DVal.int IntKind.i64 0, DVal.int IntKind.i64 0, DVal.int IntKind.i64 0, DVal.int IntKind.i64 0, DVal.int IntKind.i64 0, DVal.int IntKind.i64 0, DVal.int IntKind.i64 0, DVal.int IntKind.i64 0, DVal.int IntKind.i64 0, DVal.int IntKind.i64 0, DVal.int IntKind.i64 0, DVal.int IntKind.i64 0, DVal.int IntKind.i64 0, DVal.int IntKind.i64 0, DVal.int IntKind.i64 0, DVal.int IntKind.i64 0, DVal.int IntKind.i64 0, DVal.int IntKind.i64 0, DVal.int IntKind.i64 0, DVal.int IntKind.i64 0, DVal.int IntKind.i64 0, DVal.int IntKind.i64 0, DVal.int IntKind.i64 0, DVal.int IntKind.i64 0, DVal.int IntKind.i64 0, DVal.int IntKind.i64 0, DVal.int IntKind.i64 0, DVal.int IntKind.i64 0, DVal.int IntKind.i64 0, DVal.int IntKind.i64 0, DVal.int IntKind.i64 0, DVal.int IntKind.i64 0, DVal.int IntKind.i64 0, DVal.int IntKind.i64 0, DVal.int IntKind.i64 0, DVal.int IntKind.i64 0, DVal.int IntKind.i64 0, DVal.int IntKind.i64 0, DVal.int IntKind.i64 0, DVal.int IntKind.i64 0, DVal.int IntKind.i64 0, DVal.int IntKind.i64 0, DVal.int IntKind.i64 0, DVal.int IntKind.i64 0, DVal.int IntKind.i64 0, DVal.int IntKind.i64 0, DVal.int IntKind.i64 0, DVal.int IntKind.i64 0, DVal.int IntKind.i64 0, DVal.int IntKind.i64 0, DVal.int IntKind.i64 0, DVal.int IntKind.i64 0, DVal.int IntKind.i64 0, DVal.int IntKind.i64 0, DVal.int IntKind.i64 0, DVal.int IntKind.i64 0, DVal.int IntKind.i64 0, DVal.int IntKind.i64 0] = zeroC.map dI := rfl
  have hzb : [DVal.bool false, DVal.bool false, DVal.bool false, DVal.bool false, DVal.bool false, DVal.bool false, DVal.bool false, DVal.bool false, DVal.bool false, DVal.bool false, DVal.bool false, DVal.bool false, DVal.bool false, DVal.bool false, DVal.bool false, DVal.bool false, DVal.bool false, DVal.bool false, DVal.bool false, DVal.bool false, DVal.bool false, DVal.bool false, DVal.bool false, DVal.bool false, DVal.bool false, DVal.bool false, DVal.bool false, DVal.bool false, DVal.bool false, DVal.bool false, DVal.bool false, DVal.bool false, DVal.bool false, DVal.bool false, DVal.bool false, DVal.bool false, DVal.bool false, DVal.bool false, DVal.bool false, DVal.bool false, DVal.bool false, DVal.bool false, DVal.bool false, DVal.bool false, DVal.bool false, DVal.bool false, DVal.bool false, DVal.bool false, DVal.bool false, DVal.bool false, DVal.bool false, DVal.bool false, DVal.bool false, DVal.bool false, DVal.bool false, DVal.bool false, DVal.bool false, DVal.bool false] = (List.replicate 58 false).map DVal.bool := rfl
  have hl : (defC.map dI).length = 58 := rfl
  have ha : (defC.map dI).all (fun d => d.one) = true := rfl
  have hzl : (zeroC.map dI).length = 58 := rfl
  have hza : (zeroC.map dI).all (fun d => d.one) = true := rfl
  have hzt : (zeroC.map dI).take 58 = zeroC.map dI := rfl
  have hzd : (zeroC.map dI).drop 58 = [] := rfl
  have hrepl : (List.replicate 58 (DVal.int .i64 0)) = zeroC.map dI := rfl
  refine dcalls_intro Tryd.func27 Tryd.call27 rfl (by kernel_rfl) ?_
  simp (disch := omega) only [go_sem, Nat.reduceEqDiff, Nat.reduceAdd, Nat.reduceMul, Nat.reduceSub, Nat.reduceLeDiff, ↓reduceIte, reduceCtorEq, Int.reduceAdd, Int.reduceSub, Int.reduceMul, Int.reduceNeg, Int.reduceToNat, List.reduceReplicate, String.reduceEq]
  rw [hz]
  intro r2 hr2; dsimp only at hr2
  simp (disch := omega) only [go_sem, Nat.reduceEqDiff, Nat.reduceAdd, Nat.reduceMul, Nat.reduceSub, Nat.reduceLeDiff, ↓reduceIte, reduceCtorEq, Int.reduceAdd, Int.reduceSub, Int.reduceMul, Int.reduceNeg, Int.reduceToNat, List.reduceReplicate, String.reduceEq]
  refine (default_spec hG3 _).mono ?_
  rintro _ H1 ⟨rfl, rfl⟩
  simp (disch := omega) only [go_sem, Nat.reduceEqDiff, Nat.reduceAdd, Nat.reduceMul, Nat.reduceSub, Nat.reduceLeDiff, ↓reduceIte, reduceCtorEq, Int.reduceAdd, Int.reduceSub, Int.reduceMul, Int.reduceNeg, Int.reduceToNat, List.reduceReplicate, String.reduceEq, dCs, DVal.cells]
  rw [hz]
  intro r4 hr4; dsimp only at hr4
  simp (disch := omega) only [go_sem, Nat.reduceEqDiff, Nat.reduceAdd, Nat.reduceMul, Nat.reduceSub, Nat.reduceLeDiff, ↓reduceIte, reduceCtorEq, Int.reduceAdd, Int.reduceSub, Int.reduceMul, Int.reduceNeg, Int.reduceToNat, List.reduceReplicate, String.reduceEq, hl, ha, hzl, hzd, List.append_nil]
  rw [hzb]
  intro r5 hr5; dsimp only at hr5
  simp (disch := omega) only [go_sem, Nat.reduceEqDiff, Nat.reduceAdd, Nat.reduceMul, Nat.reduceSub, Nat.reduceLeDiff, ↓reduceIte, reduceCtorEq, Int.reduceAdd, Int.reduceSub, Int.reduceMul, Int.reduceNeg, Int.reduceToNat, List.reduceReplicate, String.reduceEq]
  refine (hasSuffix_spec (G := G) s [10] (by omega)).mono ?_
  rintro _ H1 ⟨rfl, rfl⟩
  have hfe : ((Lib.hasSuffix s [10] || decide (s = [])) = true ↔ (linesR s []).2 = []) := by
    rw [ends_iff, suffix_last]
    by_cases h1 : s.getLast? = some 10 <;> by_cases h2 : s = [] <;> simp [h1, h2]
  cases hsf : Lib.hasSuffix s [10] with
  | true =>
    have hse : (0 : Nat) = 0 := rfl
    have hse' : (0 : Nat) + 0 = 0 := rfl
    have hfv : (true) = true ↔ (linesR s []).2 = [] := by rw [← hfe, hsf]; simp [hse]
    simp (disch := omega) only [go_sem, Nat.reduceEqDiff, Nat.reduceAdd, Nat.reduceMul, Nat.reduceSub, Nat.reduceLeDiff, ↓reduceIte, reduceCtorEq, Int.reduceAdd, Int.reduceSub, Int.reduceMul, Int.reduceNeg, Int.reduceToNat, List.reduceReplicate, String.reduceEq, hse']
    intro r6 hr6; dsimp only at hr6
    simp (disch := omega) only [go_sem, Nat.reduceEqDiff, Nat.reduceAdd, Nat.reduceMul, Nat.reduceSub, Nat.reduceLeDiff, ↓reduceIte, reduceCtorEq, Int.reduceAdd, Int.reduceSub, Int.reduceMul, Int.reduceNeg, Int.reduceToNat, List.reduceReplicate, String.reduceEq]
    refine (lines_spec G _ s).mono ?_
    rintro _ H1 ⟨rs, rfl, hrs, rfl⟩
    have hr4' := hr4
    obtain ⟨m2, m1, hr5'⟩ := upd_eq_none.1 hr5
    obtain ⟨m6, m5, hr6a⟩ := upd_eq_none.1 hr6
    obtain ⟨m4, m3, hr6'⟩ := upd_eq_none.1 hr6a
    obtain ⟨n6, _, hrsa⟩ := upd_eq_none.1 hrs
    obtain ⟨n5, _, hrsb⟩ := upd_eq_none.1 hrsa
    obtain ⟨n4, _, hrs'⟩ := upd_eq_none.1 hrsb
    obtain ⟨q4, p4, _⟩ := upd_eq_none.1 hr4'
    obtain ⟨q5, p5, _⟩ := upd_eq_none.1 hr5'
    obtain ⟨q6, p6, _⟩ := upd_eq_none.1 hr6'
    obtain ⟨X3, hX3⟩ : ∃ X3 : List Int → List Bool → Bool → DHeap, ∀ c sn f, X3 c sn f = upd (upd (upd h0 r4 (some (.cells (c.map dI) 23))) r5 (some (.cells (sn.map .bool) 98))) r6 (some (.cells [.bool f] 4)) := ⟨_, fun _ _ _ => rfl⟩
    have hsub : ∀ X o, Disj (upd H r2 (some (DObj.cells (zeroC.map dI) 23))) X → Sub H (over (upd H r2 (some (DObj.cells (zeroC.map dI) 23))) (upd X r2 (some o))) := fun X o hd => by
      rw [← upd_over]
      refine Sub.up (fun b o' hb => ?_) hr2 _
      have hb2 : b ≠ r2 := fun e => by subst e; rw [hr2] at hb; cases hb
      have hXb : X b = none := hd.x (by simp only [upd, if_neg hb2]; rw [hb]; simp)
      rw [over_hi hXb]; simp only [upd, if_neg hb2]; exact hb
    simp (disch := omega) only [go_sem, Nat.reduceEqDiff, Nat.reduceAdd, Nat.reduceMul, Nat.reduceSub, Nat.reduceLeDiff, ↓reduceIte, reduceCtorEq, Int.reduceAdd, Int.reduceSub, Int.reduceMul, Int.reduceNeg, Int.reduceToNat, List.reduceReplicate, String.reduceEq]
    refine dwp_rangeY 81 [.optr rs 0] (lineB rs s) ((linesG s).map fun l => [.str l]) (lines_iter G s (by omega) rs) rfl (by kernel_rfl) (by simp) (upd H r2 (some (DObj.cells (zeroC.map dI) 23))) (X3 defC (List.replicate 58 false) (true)) (by rw [hX3]; exact over3 _ _ _ _ _ n4 n5 n6) (by rw [hX3]; exact (((Disj.h0 _).hi hr4' _).hi hr5' _).hi hr6' _) ((Disj.h0 _).hi hrs' _) (fun b hb => by
        rw [hX3] at hb
        have : b ≠ rs := fun e => hb (by subst e; simp [upd, h0, n4, n5, n6])
        simp [lineB, upd, this, h0])
      (fun k X => ∃ st, foldC (rd0 58) ((linesT s).take k) = some st ∧ st.c.length = 58 ∧ st.seen.length = 58 ∧ X = X3 st.c st.seen (true))
      (fun c X => c = .exit 0 ∧ readC s = none ∧ ∃ c sn, X = X3 c sn false) ⟨rd0 58, by simp [foldC], rfl, by simp [rd0], rfl⟩ ?_ ?_ ?_
    · rintro k x Hi X hd hx ⟨st, hst, hc, hsn, rfl⟩
      rw [List.getElem?_map, Option.map_eq_some_iff] at hx
      obtain ⟨ln, hln, rfl⟩ := hx
      have hlt : (linesT s)[k]? = some (Lib.trimSuffix ln [10]) := by rw [linesT, List.getElem?_map, hln]; rfl
      have hll : ln.length ≤ 1000000 := Nat.le_trans (linesG_len s ln (List.mem_of_getElem? hln)) hs
      have hwl : (Lib.trimSuffix ln [10]).length ≤ 1000000 := Nat.le_trans (trim_len ln) hll
      generalize hw : Lib.trimSuffix ln [10] = w at hlt hwl
      have hnx := foldC_take _ _ _ _ _ hst hlt
      have hbadr := fun h => read_bad hst hlt h
      have hnb := namedC_bounds (wordOf w)
      have hrl := rest_len w
      have hcl : (st.c.map dI).length = 58 := by rw [List.length_map, hc]
      have hsl : (st.seen.map DVal.bool).length = 58 := by rw [List.length_map, hsn]
      have hX := hX3 st.c st.seen (true)
      have hX0 := hX3 st.c st.seen false
      have hd2 := hd
      rw [hX] at hd2
      have hbad : stepC st w = none → ∃ X, over Hi (X3 st.c st.seen false) = over Hi X ∧ Disj Hi X ∧ readC s = none ∧ ∃ c sn, X = X3 c sn false := fun h => by
        refine ⟨_, rfl, ?_, hbadr h, _, _, rfl⟩
        rw [hX0]
        have := hd2.st (r := r6) (by simp [upd]; rfl) (some (.cells [.bool false] 4))
        rwa [upd_upd] at this
      rw [hX]
      simp (disch := omega) only [go_sem, Nat.reduceEqDiff, Nat.reduceAdd, Nat.reduceMul, Nat.reduceSub, Nat.reduceLeDiff, ↓reduceIte, reduceCtorEq, Int.reduceAdd, Int.reduceSub, Int.reduceMul, Int.reduceNeg, Int.reduceToNat, List.reduceReplicate, String.reduceEq]
      refine (trimSuffix_spec (G := G) ln [10] (by omega)).mono ?_
      rintro _ H1 ⟨rfl, rfl⟩
      rw [hw]
      simp (disch := omega) only [go_sem, Nat.reduceEqDiff, Nat.reduceAdd, Nat.reduceMul, Nat.reduceSub, Nat.reduceLeDiff, ↓reduceIte, reduceCtorEq, Int.reduceAdd, Int.reduceSub, Int.reduceMul, Int.reduceNeg, Int.reduceToNat, List.reduceReplicate, String.reduceEq]
      refine (cut_spec hT w [32] (by omega)).mono ?_
      rintro _ H1 ⟨rfl, rfl⟩
      rw [show (Lib.cut w [32]).1 = wordOf w from rfl, show (Lib.cut w [32]).2.1 = restOf w from rfl]
      simp (disch := omega) only [go_sem, Nat.reduceEqDiff, Nat.reduceAdd, Nat.reduceMul, Nat.reduceSub, Nat.reduceLeDiff, ↓reduceIte, reduceCtorEq, Int.reduceAdd, Int.reduceSub, Int.reduceMul, Int.reduceNeg, Int.reduceToNat, List.reduceReplicate, String.reduceEq]
      refine (named_spec hG _ (wordOf w)).mono ?_
      rintro _ H1 ⟨rfl, rfl⟩
      simp (disch := omega) only [go_sem, Nat.reduceEqDiff, Nat.reduceAdd, Nat.reduceMul, Nat.reduceSub, Nat.reduceLeDiff, ↓reduceIte, reduceCtorEq, Int.reduceAdd, Int.reduceSub, Int.reduceMul, Int.reduceNeg, Int.reduceToNat, List.reduceReplicate, String.reduceEq]
      refine (parseInt_spec hT (restOf w) (by omega)).mono ?_
      rintro _ H1 ⟨⟨v, er, rfl, hpi⟩, rfl⟩
      by_cases c1 : 1 ≤ namedC (wordOf w)
      · have ho : (namedC (wordOf w)).toNat < 58 := by omega
        have hget : (st.seen.map DVal.bool)[(namedC (wordOf w)).toNat]? = some (.bool (st.seen.getD (namedC (wordOf w)).toNat false)) := by
          rw [List.getElem?_map, List.getElem?_eq_getElem (by omega), List.getD, List.getElem?_eq_getElem (by omega)]; rfl
        cases c2 : st.seen.getD (namedC (wordOf w)).toNat false with
        | true =>
          rw [c2] at hget
          simp (disch := omega) only [go_sem, Nat.reduceEqDiff, Nat.reduceAdd, Nat.reduceMul, Nat.reduceSub, Nat.reduceLeDiff, ↓reduceIte, reduceCtorEq, Int.reduceAdd, Int.reduceSub, Int.reduceMul, Int.reduceNeg, Int.reduceToNat, List.reduceReplicate, String.reduceEq, c1, m1, m2, m3, m4, m5, m6, hcl, hsl, hget, List.length_cons, List.length_nil]
          rw [← hX0]
          refine hbad ?_
          unfold stepC
          cases hp : partC w with
          | none => rfl
          | some p =>
            have := (partC_iff (o := p.1) (v := p.2)).1 hp
            have hn : (namedC (wordOf w)).toNat = p.1 := by
              obtain ⟨h1, h2, _, _, rfl⟩ := this
              have hcut := cut_at (nameC p.1) (Lib.itoa p.2) 32 (nameC_no h1 h2 32 (by decide))
              rw [wordOf, hcut, namedC_name h1 h2]; omega
            rw [hn] at c2
            simp only [c2, if_true]
        | false =>
          rw [c2] at hget
          cases hp : pI (restOf w) with
          | none =>
            obtain ⟨t, x, rfl⟩ := hpi.2 (fun n hn => by rw [pI, hn] at hp; cases hp)
            simp (disch := omega) only [go_sem, Nat.reduceEqDiff, Nat.reduceAdd, Nat.reduceMul, Nat.reduceSub, Nat.reduceLeDiff, ↓reduceIte, reduceCtorEq, Int.reduceAdd, Int.reduceSub, Int.reduceMul, Int.reduceNeg, Int.reduceToNat, List.reduceReplicate, String.reduceEq, c1, m1, m2, m3, m4, m5, m6, hcl, hsl, hget, List.length_cons, List.length_nil]
            rw [← hX0]
            exact hbad (by rw [stepC, partC, hp])
          | some n =>
            obtain ⟨rfl, rfl⟩ := hpi.1 n (by
              unfold pI at hp
              split at hp
              · rename_i e; cases hp; exact e
              · cases hp)
            have hi64 := pI_i64 hp
            by_cases c3 : v < 1
            · simp (disch := omega) only [go_sem, Nat.reduceEqDiff, Nat.reduceAdd, Nat.reduceMul, Nat.reduceSub, Nat.reduceLeDiff, ↓reduceIte, reduceCtorEq, Int.reduceAdd, Int.reduceSub, Int.reduceMul, Int.reduceNeg, Int.reduceToNat, List.reduceReplicate, String.reduceEq, c1, m1, m2, m3, m4, m5, m6, hcl, hsl, hget, c3, List.length_cons, List.length_nil]
              rw [← hX0]
              exact hbad (by rw [stepC, partC, hp]; simp only; rw [if_neg (by omega)])
            by_cases c4 : 1000 < v
            · simp (disch := omega) only [go_sem, Nat.reduceEqDiff, Nat.reduceAdd, Nat.reduceMul, Nat.reduceSub, Nat.reduceLeDiff, ↓reduceIte, reduceCtorEq, Int.reduceAdd, Int.reduceSub, Int.reduceMul, Int.reduceNeg, Int.reduceToNat, List.reduceReplicate, String.reduceEq, c1, m1, m2, m3, m4, m5, m6, hcl, hsl, hget, c3, c4, List.length_cons, List.length_nil]
              rw [← hX0]
              exact hbad (by rw [stepC, partC, hp]; simp only; rw [if_neg (by omega)])
            by_cases c5 : Lib.itoa v = restOf w
            · have hset1 := splice_setA DVal.bool st.seen (namedC (wordOf w)).toNat true (by omega)
              have hset2 := splice_setA dI st.c (namedC (wordOf w)).toNat v (by omega)
              have hst2 : stepC st w = some ⟨st.c.set (namedC (wordOf w)).toNat v, st.seen.set (namedC (wordOf w)).toNat true⟩ := by
                rw [stepC, partC, hp]; simp only; rw [if_pos ⟨c1, by omega, by omega, c5⟩]; simp only [c2]; rfl
              simp (disch := omega) only [go_sem, Nat.reduceEqDiff, Nat.reduceAdd, Nat.reduceMul, Nat.reduceSub, Nat.reduceLeDiff, ↓reduceIte, reduceCtorEq, Int.reduceAdd, Int.reduceSub, Int.reduceMul, Int.reduceNeg, Int.reduceToNat, List.reduceReplicate, String.reduceEq, c1, m1, m2, m3, m4, m5, m6, hcl, hsl, hget, c3, c4, List.length_cons, List.length_nil]
              refine (formatInt_spec hG2 v hi64).mono ?_
              rintro _ H1 ⟨rfl, rfl⟩
              simp (disch := omega) only [go_sem, Nat.reduceEqDiff, Nat.reduceAdd, Nat.reduceMul, Nat.reduceSub, Nat.reduceLeDiff, ↓reduceIte, reduceCtorEq, Int.reduceAdd, Int.reduceSub, Int.reduceMul, Int.reduceNeg, Int.reduceToNat, List.reduceReplicate, String.reduceEq, c1, m1, m2, m3, m4, m5, m6, hcl, hsl, hget, c3, c4, c5, hset1, hset2, List.length_cons, List.length_nil]
              refine ⟨_, rfl, ?_, ⟨st.c.set (namedC (wordOf w)).toNat v, st.seen.set (namedC (wordOf w)).toNat true⟩, by rw [hnx, hst2], by simp [hc], by simp [hsn], ?_⟩
              · refine Disj.st (r := r4) (Disj.st (r := r5) hd2 (by simp [upd, m5]; rfl) _) (by simp [upd, m1, m3]; rfl) _
              · rw [hX3]
                funext i
                simp only [upd]
                by_cases j1 : i = r4
                · subst j1; simp [m1, m3]
                · by_cases j2 : i = r5
                  · subst j2; simp [m2, m5]
                  · simp [j1, j2]
            · simp (disch := omega) only [go_sem, Nat.reduceEqDiff, Nat.reduceAdd, Nat.reduceMul, Nat.reduceSub, Nat.reduceLeDiff, ↓reduceIte, reduceCtorEq, Int.reduceAdd, Int.reduceSub, Int.reduceMul, Int.reduceNeg, Int.reduceToNat, List.reduceReplicate, String.reduceEq, c1, m1, m2, m3, m4, m5, m6, hcl, hsl, hget, c3, c4, List.length_cons, List.length_nil]
              refine (formatInt_spec hG2 v hi64).mono ?_
              rintro _ H1 ⟨rfl, rfl⟩
              simp (disch := omega) only [go_sem, Nat.reduceEqDiff, Nat.reduceAdd, Nat.reduceMul, Nat.reduceSub, Nat.reduceLeDiff, ↓reduceIte, reduceCtorEq, Int.reduceAdd, Int.reduceSub, Int.reduceMul, Int.reduceNeg, Int.reduceToNat, List.reduceReplicate, String.reduceEq, c1, m1, m2, m3, m4, m5, m6, hcl, hsl, hget, c3, c4, c5, List.length_cons, List.length_nil]
              rw [← hX0]
              exact hbad (by rw [stepC, partC, hp]; simp only; rw [if_neg (fun h => c5 h.2.2.2)])
      · simp (disch := omega) only [go_sem, Nat.reduceEqDiff, Nat.reduceAdd, Nat.reduceMul, Nat.reduceSub, Nat.reduceLeDiff, ↓reduceIte, reduceCtorEq, Int.reduceAdd, Int.reduceSub, Int.reduceMul, Int.reduceNeg, Int.reduceToNat, List.reduceReplicate, String.reduceEq, c1, m1, m2, m3, m4, m5, m6, hcl, hsl, List.length_cons, List.length_nil]
        rw [← hX0]
        refine hbad ?_
        rw [stepC, partC]
        cases pI (restOf w) with
        | none => rfl
        | some v => simp only; rw [if_neg (fun h => c1 h.1)]
    · rintro X hd ⟨st, hst, hc, hsn, rfl⟩
      rw [List.length_map, show (linesG s).length = (linesT s).length by simp [linesT], List.take_length] at hst
      have hrd := read_good hst
      have hcl : (st.c.map dI).length = 58 := by rw [List.length_map, hc]
      have hct : (st.c.map dI).take 58 = st.c.map dI := List.take_of_length_le (by omega)
      have hca : (st.c.map dI).all (fun d => d.one) = true := ints_one _
      rw [hX3] at hd ⊢
      simp (disch := omega) only [go_sem, Nat.reduceEqDiff, Nat.reduceAdd, Nat.reduceMul, Nat.reduceSub, Nat.reduceLeDiff, ↓reduceIte, reduceCtorEq, Int.reduceAdd, Int.reduceSub, Int.reduceMul, Int.reduceNeg, Int.reduceToNat, List.reduceReplicate, String.reduceEq, m1, m2, m3, m4, m5, m6, p4, p5, p6, q4, q5, q6, hcl, hct, hca, hzl, hzd, hz, hza, hzt, List.append_nil, over_h0, upd_same]
      first
        | exact DFin.sub (hsub _ _ hd) (DFin.refl ⟨by rw [readCD, hrd, if_pos (hfv.1 rfl)], rfl⟩)
        | exact DFin.sub (hsub _ _ hd) (DFin.refl ⟨by rw [readCD_none (by rw [hrd, if_neg (fun h => by have := hfv.2 h; cases this)])], rfl⟩)
        | fail
    · rintro c X hd ⟨rfl, hrd, c, sn, rfl⟩
      rw [hX3] at hd ⊢
      simp only [DJump, DBlockQ, decide_true, dBlockE, DSeqQ]
      simp (disch := omega) only [go_sem, Nat.reduceEqDiff, Nat.reduceAdd, Nat.reduceMul, Nat.reduceSub, Nat.reduceLeDiff, ↓reduceIte, reduceCtorEq, Int.reduceAdd, Int.reduceSub, Int.reduceMul, Int.reduceNeg, Int.reduceToNat, List.reduceReplicate, String.reduceEq, m1, m2, m3, m4, m5, m6, p4, p5, p6, q4, q5, q6, hzl, hzd, hz, hza, hzt, List.append_nil, over_h0, upd_same]
      first
        | exact DFin.sub (hsub _ _ hd) (DFin.refl ⟨by rw [readCD_none hrd], rfl⟩)
        | fail
  | false =>
    by_cases hse : s = []
    · have hse' : decide (s = []) = true := decide_eq_true hse
      have hfv : (true) = true ↔ (linesR s []).2 = [] := by rw [← hfe, hsf]; simp [hse]
      simp (disch := omega) only [go_sem, Nat.reduceEqDiff, Nat.reduceAdd, Nat.reduceMul, Nat.reduceSub, Nat.reduceLeDiff, ↓reduceIte, reduceCtorEq, Int.reduceAdd, Int.reduceSub, Int.reduceMul, Int.reduceNeg, Int.reduceToNat, List.reduceReplicate, String.reduceEq, hse']
      intro r6 hr6; dsimp only at hr6
      simp (disch := omega) only [go_sem, Nat.reduceEqDiff, Nat.reduceAdd, Nat.reduceMul, Nat.reduceSub, Nat.reduceLeDiff, ↓reduceIte, reduceCtorEq, Int.reduceAdd, Int.reduceSub, Int.reduceMul, Int.reduceNeg, Int.reduceToNat, List.reduceReplicate, String.reduceEq]
      refine (lines_spec G _ s).mono ?_
      rintro _ H1 ⟨rs, rfl, hrs, rfl⟩
      have hr4' := hr4
      obtain ⟨m2, m1, hr5'⟩ := upd_eq_none.1 hr5
      obtain ⟨m6, m5, hr6a⟩ := upd_eq_none.1 hr6
      obtain ⟨m4, m3, hr6'⟩ := upd_eq_none.1 hr6a
      obtain ⟨n6, _, hrsa⟩ := upd_eq_none.1 hrs
      obtain ⟨n5, _, hrsb⟩ := upd_eq_none.1 hrsa
      obtain ⟨n4, _, hrs'⟩ := upd_eq_none.1 hrsb
      obtain ⟨q4, p4, _⟩ := upd_eq_none.1 hr4'
      obtain ⟨q5, p5, _⟩ := upd_eq_none.1 hr5'
      obtain ⟨q6, p6, _⟩ := upd_eq_none.1 hr6'
      obtain ⟨X3, hX3⟩ : ∃ X3 : List Int → List Bool → Bool → DHeap, ∀ c sn f, X3 c sn f = upd (upd (upd h0 r4 (some (.cells (c.map dI) 23))) r5 (some (.cells (sn.map .bool) 98))) r6 (some (.cells [.bool f] 4)) := ⟨_, fun _ _ _ => rfl⟩
      have hsub : ∀ X o, Disj (upd H r2 (some (DObj.cells (zeroC.map dI) 23))) X → Sub H (over (upd H r2 (some (DObj.cells (zeroC.map dI) 23))) (upd X r2 (some o))) := fun X o hd => by
        rw [← upd_over]
        refine Sub.up (fun b o' hb => ?_) hr2 _
        have hb2 : b ≠ r2 := fun e => by subst e; rw [hr2] at hb; cases hb
        have hXb : X b = none := hd.x (by simp only [upd, if_neg hb2]; rw [hb]; simp)
        rw [over_hi hXb]; simp only [upd, if_neg hb2]; exact hb
      simp (disch := omega) only [go_sem, Nat.reduceEqDiff, Nat.reduceAdd, Nat.reduceMul, Nat.reduceSub, Nat.reduceLeDiff, ↓reduceIte, reduceCtorEq, Int.reduceAdd, Int.reduceSub, Int.reduceMul, Int.reduceNeg, Int.reduceToNat, List.reduceReplicate, String.reduceEq]
      refine dwp_rangeY 81 [.optr rs 0] (lineB rs s) ((linesG s).map fun l => [.str l]) (lines_iter G s (by omega) rs) rfl (by kernel_rfl) (by simp) (upd H r2 (some (DObj.cells (zeroC.map dI) 23))) (X3 defC (List.replicate 58 false) (true)) (by rw [hX3]; exact over3 _ _ _ _ _ n4 n5 n6) (by rw [hX3]; exact (((Disj.h0 _).hi hr4' _).hi hr5' _).hi hr6' _) ((Disj.h0 _).hi hrs' _) (fun b hb => by
          rw [hX3] at hb
          have : b ≠ rs := fun e => hb (by subst e; simp [upd, h0, n4, n5, n6])
          simp [lineB, upd, this, h0])
        (fun k X => ∃ st, foldC (rd0 58) ((linesT s).take k) = some st ∧ st.c.length = 58 ∧ st.seen.length = 58 ∧ X = X3 st.c st.seen (true))
        (fun c X => c = .exit 0 ∧ readC s = none ∧ ∃ c sn, X = X3 c sn false) ⟨rd0 58, by simp [foldC], rfl, by simp [rd0], rfl⟩ ?_ ?_ ?_
      · rintro k x Hi X hd hx ⟨st, hst, hc, hsn, rfl⟩
        rw [List.getElem?_map, Option.map_eq_some_iff] at hx
        obtain ⟨ln, hln, rfl⟩ := hx
        have hlt : (linesT s)[k]? = some (Lib.trimSuffix ln [10]) := by rw [linesT, List.getElem?_map, hln]; rfl
        have hll : ln.length ≤ 1000000 := Nat.le_trans (linesG_len s ln (List.mem_of_getElem? hln)) hs
        have hwl : (Lib.trimSuffix ln [10]).length ≤ 1000000 := Nat.le_trans (trim_len ln) hll
        generalize hw : Lib.trimSuffix ln [10] = w at hlt hwl
        have hnx := foldC_take _ _ _ _ _ hst hlt
        have hbadr := fun h => read_bad hst hlt h
        have hnb := namedC_bounds (wordOf w)
        have hrl := rest_len w
        have hcl : (st.c.map dI).length = 58 := by rw [List.length_map, hc]
        have hsl : (st.seen.map DVal.bool).length = 58 := by rw [List.length_map, hsn]
        have hX := hX3 st.c st.seen (true)
        have hX0 := hX3 st.c st.seen false
        have hd2 := hd
        rw [hX] at hd2
        have hbad : stepC st w = none → ∃ X, over Hi (X3 st.c st.seen false) = over Hi X ∧ Disj Hi X ∧ readC s = none ∧ ∃ c sn, X = X3 c sn false := fun h => by
          refine ⟨_, rfl, ?_, hbadr h, _, _, rfl⟩
          rw [hX0]
          have := hd2.st (r := r6) (by simp [upd]; rfl) (some (.cells [.bool false] 4))
          rwa [upd_upd] at this
        rw [hX]
        simp (disch := omega) only [go_sem, Nat.reduceEqDiff, Nat.reduceAdd, Nat.reduceMul, Nat.reduceSub, Nat.reduceLeDiff, ↓reduceIte, reduceCtorEq, Int.reduceAdd, Int.reduceSub, Int.reduceMul, Int.reduceNeg, Int.reduceToNat, List.reduceReplicate, String.reduceEq]
        refine (trimSuffix_spec (G := G) ln [10] (by omega)).mono ?_
        rintro _ H1 ⟨rfl, rfl⟩
        rw [hw]
        simp (disch := omega) only [go_sem, Nat.reduceEqDiff, Nat.reduceAdd, Nat.reduceMul, Nat.reduceSub, Nat.reduceLeDiff, ↓reduceIte, reduceCtorEq, Int.reduceAdd, Int.reduceSub, Int.reduceMul, Int.reduceNeg, Int.reduceToNat, List.reduceReplicate, String.reduceEq]
        refine (cut_spec hT w [32] (by omega)).mono ?_
        rintro _ H1 ⟨rfl, rfl⟩
        rw [show (Lib.cut w [32]).1 = wordOf w from rfl, show (Lib.cut w [32]).2.1 = restOf w from rfl]
        simp (disch := omega) only [go_sem, Nat.reduceEqDiff, Nat.reduceAdd, Nat.reduceMul, Nat.reduceSub, Nat.reduceLeDiff, ↓reduceIte, reduceCtorEq, Int.reduceAdd, Int.reduceSub, Int.reduceMul, Int.reduceNeg, Int.reduceToNat, List.reduceReplicate, String.reduceEq]
        refine (named_spec hG _ (wordOf w)).mono ?_
        rintro _ H1 ⟨rfl, rfl⟩
        simp (disch := omega) only [go_sem, Nat.reduceEqDiff, Nat.reduceAdd, Nat.reduceMul, Nat.reduceSub, Nat.reduceLeDiff, ↓reduceIte, reduceCtorEq, Int.reduceAdd, Int.reduceSub, Int.reduceMul, Int.reduceNeg, Int.reduceToNat, List.reduceReplicate, String.reduceEq]
        refine (parseInt_spec hT (restOf w) (by omega)).mono ?_
        rintro _ H1 ⟨⟨v, er, rfl, hpi⟩, rfl⟩
        by_cases c1 : 1 ≤ namedC (wordOf w)
        · have ho : (namedC (wordOf w)).toNat < 58 := by omega
          have hget : (st.seen.map DVal.bool)[(namedC (wordOf w)).toNat]? = some (.bool (st.seen.getD (namedC (wordOf w)).toNat false)) := by
            rw [List.getElem?_map, List.getElem?_eq_getElem (by omega), List.getD, List.getElem?_eq_getElem (by omega)]; rfl
          cases c2 : st.seen.getD (namedC (wordOf w)).toNat false with
          | true =>
            rw [c2] at hget
            simp (disch := omega) only [go_sem, Nat.reduceEqDiff, Nat.reduceAdd, Nat.reduceMul, Nat.reduceSub, Nat.reduceLeDiff, ↓reduceIte, reduceCtorEq, Int.reduceAdd, Int.reduceSub, Int.reduceMul, Int.reduceNeg, Int.reduceToNat, List.reduceReplicate, String.reduceEq, c1, m1, m2, m3, m4, m5, m6, hcl, hsl, hget, List.length_cons, List.length_nil]
            rw [← hX0]
            refine hbad ?_
            unfold stepC
            cases hp : partC w with
            | none => rfl
            | some p =>
              have := (partC_iff (o := p.1) (v := p.2)).1 hp
              have hn : (namedC (wordOf w)).toNat = p.1 := by
                obtain ⟨h1, h2, _, _, rfl⟩ := this
                have hcut := cut_at (nameC p.1) (Lib.itoa p.2) 32 (nameC_no h1 h2 32 (by decide))
                rw [wordOf, hcut, namedC_name h1 h2]; omega
              rw [hn] at c2
              simp only [c2, if_true]
          | false =>
            rw [c2] at hget
            cases hp : pI (restOf w) with
            | none =>
              obtain ⟨t, x, rfl⟩ := hpi.2 (fun n hn => by rw [pI, hn] at hp; cases hp)
              simp (disch := omega) only [go_sem, Nat.reduceEqDiff, Nat.reduceAdd, Nat.reduceMul, Nat.reduceSub, Nat.reduceLeDiff, ↓reduceIte, reduceCtorEq, Int.reduceAdd, Int.reduceSub, Int.reduceMul, Int.reduceNeg, Int.reduceToNat, List.reduceReplicate, String.reduceEq, c1, m1, m2, m3, m4, m5, m6, hcl, hsl, hget, List.length_cons, List.length_nil]
              rw [← hX0]
              exact hbad (by rw [stepC, partC, hp])
            | some n =>
              obtain ⟨rfl, rfl⟩ := hpi.1 n (by
                unfold pI at hp
                split at hp
                · rename_i e; cases hp; exact e
                · cases hp)
              have hi64 := pI_i64 hp
              by_cases c3 : v < 1
              · simp (disch := omega) only [go_sem, Nat.reduceEqDiff, Nat.reduceAdd, Nat.reduceMul, Nat.reduceSub, Nat.reduceLeDiff, ↓reduceIte, reduceCtorEq, Int.reduceAdd, Int.reduceSub, Int.reduceMul, Int.reduceNeg, Int.reduceToNat, List.reduceReplicate, String.reduceEq, c1, m1, m2, m3, m4, m5, m6, hcl, hsl, hget, c3, List.length_cons, List.length_nil]
                rw [← hX0]
                exact hbad (by rw [stepC, partC, hp]; simp only; rw [if_neg (by omega)])
              by_cases c4 : 1000 < v
              · simp (disch := omega) only [go_sem, Nat.reduceEqDiff, Nat.reduceAdd, Nat.reduceMul, Nat.reduceSub, Nat.reduceLeDiff, ↓reduceIte, reduceCtorEq, Int.reduceAdd, Int.reduceSub, Int.reduceMul, Int.reduceNeg, Int.reduceToNat, List.reduceReplicate, String.reduceEq, c1, m1, m2, m3, m4, m5, m6, hcl, hsl, hget, c3, c4, List.length_cons, List.length_nil]
                rw [← hX0]
                exact hbad (by rw [stepC, partC, hp]; simp only; rw [if_neg (by omega)])
              by_cases c5 : Lib.itoa v = restOf w
              · have hset1 := splice_setA DVal.bool st.seen (namedC (wordOf w)).toNat true (by omega)
                have hset2 := splice_setA dI st.c (namedC (wordOf w)).toNat v (by omega)
                have hst2 : stepC st w = some ⟨st.c.set (namedC (wordOf w)).toNat v, st.seen.set (namedC (wordOf w)).toNat true⟩ := by
                  rw [stepC, partC, hp]; simp only; rw [if_pos ⟨c1, by omega, by omega, c5⟩]; simp only [c2]; rfl
                simp (disch := omega) only [go_sem, Nat.reduceEqDiff, Nat.reduceAdd, Nat.reduceMul, Nat.reduceSub, Nat.reduceLeDiff, ↓reduceIte, reduceCtorEq, Int.reduceAdd, Int.reduceSub, Int.reduceMul, Int.reduceNeg, Int.reduceToNat, List.reduceReplicate, String.reduceEq, c1, m1, m2, m3, m4, m5, m6, hcl, hsl, hget, c3, c4, List.length_cons, List.length_nil]
                refine (formatInt_spec hG2 v hi64).mono ?_
                rintro _ H1 ⟨rfl, rfl⟩
                simp (disch := omega) only [go_sem, Nat.reduceEqDiff, Nat.reduceAdd, Nat.reduceMul, Nat.reduceSub, Nat.reduceLeDiff, ↓reduceIte, reduceCtorEq, Int.reduceAdd, Int.reduceSub, Int.reduceMul, Int.reduceNeg, Int.reduceToNat, List.reduceReplicate, String.reduceEq, c1, m1, m2, m3, m4, m5, m6, hcl, hsl, hget, c3, c4, c5, hset1, hset2, List.length_cons, List.length_nil]
                refine ⟨_, rfl, ?_, ⟨st.c.set (namedC (wordOf w)).toNat v, st.seen.set (namedC (wordOf w)).toNat true⟩, by rw [hnx, hst2], by simp [hc], by simp [hsn], ?_⟩
                · refine Disj.st (r := r4) (Disj.st (r := r5) hd2 (by simp [upd, m5]; rfl) _) (by simp [upd, m1, m3]; rfl) _
                · rw [hX3]
                  funext i
                  simp only [upd]
                  by_cases j1 : i = r4
                  · subst j1; simp [m1, m3]
                  · by_cases j2 : i = r5
                    · subst j2; simp [m2, m5]
                    · simp [j1, j2]
              · simp (disch := omega) only [go_sem, Nat.reduceEqDiff, Nat.reduceAdd, Nat.reduceMul, Nat.reduceSub, Nat.reduceLeDiff, ↓reduceIte, reduceCtorEq, Int.reduceAdd, Int.reduceSub, Int.reduceMul, Int.reduceNeg, Int.reduceToNat, List.reduceReplicate, String.reduceEq, c1, m1, m2, m3, m4, m5, m6, hcl, hsl, hget, c3, c4, List.length_cons, List.length_nil]
                refine (formatInt_spec hG2 v hi64).mono ?_
                rintro _ H1 ⟨rfl, rfl⟩
                simp (disch := omega) only [go_sem, Nat.reduceEqDiff, Nat.reduceAdd, Nat.reduceMul, Nat.reduceSub, Nat.reduceLeDiff, ↓reduceIte, reduceCtorEq, Int.reduceAdd, Int.reduceSub, Int.reduceMul, Int.reduceNeg, Int.reduceToNat, List.reduceReplicate, String.reduceEq, c1, m1, m2, m3, m4, m5, m6, hcl, hsl, hget, c3, c4, c5, List.length_cons, List.length_nil]
                rw [← hX0]
                exact hbad (by rw [stepC, partC, hp]; simp only; rw [if_neg (fun h => c5 h.2.2.2)])
        · simp (disch := omega) only [go_sem, Nat.reduceEqDiff, Nat.reduceAdd, Nat.reduceMul, Nat.reduceSub, Nat.reduceLeDiff, ↓reduceIte, reduceCtorEq, Int.reduceAdd, Int.reduceSub, Int.reduceMul, Int.reduceNeg, Int.reduceToNat, List.reduceReplicate, String.reduceEq, c1, m1, m2, m3, m4, m5, m6, hcl, hsl, List.length_cons, List.length_nil]
          rw [← hX0]
          refine hbad ?_
          rw [stepC, partC]
          cases pI (restOf w) with
          | none => rfl
          | some v => simp only; rw [if_neg (fun h => c1 h.1)]
      · rintro X hd ⟨st, hst, hc, hsn, rfl⟩
        rw [List.length_map, show (linesG s).length = (linesT s).length by simp [linesT], List.take_length] at hst
        have hrd := read_good hst
        have hcl : (st.c.map dI).length = 58 := by rw [List.length_map, hc]
        have hct : (st.c.map dI).take 58 = st.c.map dI := List.take_of_length_le (by omega)
        have hca : (st.c.map dI).all (fun d => d.one) = true := ints_one _
        rw [hX3] at hd ⊢
        simp (disch := omega) only [go_sem, Nat.reduceEqDiff, Nat.reduceAdd, Nat.reduceMul, Nat.reduceSub, Nat.reduceLeDiff, ↓reduceIte, reduceCtorEq, Int.reduceAdd, Int.reduceSub, Int.reduceMul, Int.reduceNeg, Int.reduceToNat, List.reduceReplicate, String.reduceEq, m1, m2, m3, m4, m5, m6, p4, p5, p6, q4, q5, q6, hcl, hct, hca, hzl, hzd, hz, hza, hzt, List.append_nil, over_h0, upd_same]
        first
          | exact DFin.sub (hsub _ _ hd) (DFin.refl ⟨by rw [readCD, hrd, if_pos (hfv.1 rfl)], rfl⟩)
          | exact DFin.sub (hsub _ _ hd) (DFin.refl ⟨by rw [readCD_none (by rw [hrd, if_neg (fun h => by have := hfv.2 h; cases this)])], rfl⟩)
          | fail
      · rintro c X hd ⟨rfl, hrd, c, sn, rfl⟩
        rw [hX3] at hd ⊢
        simp only [DJump, DBlockQ, decide_true, dBlockE, DSeqQ]
        simp (disch := omega) only [go_sem, Nat.reduceEqDiff, Nat.reduceAdd, Nat.reduceMul, Nat.reduceSub, Nat.reduceLeDiff, ↓reduceIte, reduceCtorEq, Int.reduceAdd, Int.reduceSub, Int.reduceMul, Int.reduceNeg, Int.reduceToNat, List.reduceReplicate, String.reduceEq, m1, m2, m3, m4, m5, m6, p4, p5, p6, q4, q5, q6, hzl, hzd, hz, hza, hzt, List.append_nil, over_h0, upd_same]
        first
          | exact DFin.sub (hsub _ _ hd) (DFin.refl ⟨by rw [readCD_none hrd], rfl⟩)
          | fail
    · have hse' : decide (s = []) = false := decide_eq_false hse
      have hfv : (false) = true ↔ (linesR s []).2 = [] := by rw [← hfe, hsf]; simp [hse]
      simp (disch := omega) only [go_sem, Nat.reduceEqDiff, Nat.reduceAdd, Nat.reduceMul, Nat.reduceSub, Nat.reduceLeDiff, ↓reduceIte, reduceCtorEq, Int.reduceAdd, Int.reduceSub, Int.reduceMul, Int.reduceNeg, Int.reduceToNat, List.reduceReplicate, String.reduceEq, hse']
      intro r6 hr6; dsimp only at hr6
      simp (disch := omega) only [go_sem, Nat.reduceEqDiff, Nat.reduceAdd, Nat.reduceMul, Nat.reduceSub, Nat.reduceLeDiff, ↓reduceIte, reduceCtorEq, Int.reduceAdd, Int.reduceSub, Int.reduceMul, Int.reduceNeg, Int.reduceToNat, List.reduceReplicate, String.reduceEq]
      refine (lines_spec G _ s).mono ?_
      rintro _ H1 ⟨rs, rfl, hrs, rfl⟩
      have hr4' := hr4
      obtain ⟨m2, m1, hr5'⟩ := upd_eq_none.1 hr5
      obtain ⟨m6, m5, hr6a⟩ := upd_eq_none.1 hr6
      obtain ⟨m4, m3, hr6'⟩ := upd_eq_none.1 hr6a
      obtain ⟨n6, _, hrsa⟩ := upd_eq_none.1 hrs
      obtain ⟨n5, _, hrsb⟩ := upd_eq_none.1 hrsa
      obtain ⟨n4, _, hrs'⟩ := upd_eq_none.1 hrsb
      obtain ⟨q4, p4, _⟩ := upd_eq_none.1 hr4'
      obtain ⟨q5, p5, _⟩ := upd_eq_none.1 hr5'
      obtain ⟨q6, p6, _⟩ := upd_eq_none.1 hr6'
      obtain ⟨X3, hX3⟩ : ∃ X3 : List Int → List Bool → Bool → DHeap, ∀ c sn f, X3 c sn f = upd (upd (upd h0 r4 (some (.cells (c.map dI) 23))) r5 (some (.cells (sn.map .bool) 98))) r6 (some (.cells [.bool f] 4)) := ⟨_, fun _ _ _ => rfl⟩
      have hsub : ∀ X o, Disj (upd H r2 (some (DObj.cells (zeroC.map dI) 23))) X → Sub H (over (upd H r2 (some (DObj.cells (zeroC.map dI) 23))) (upd X r2 (some o))) := fun X o hd => by
        rw [← upd_over]
        refine Sub.up (fun b o' hb => ?_) hr2 _
        have hb2 : b ≠ r2 := fun e => by subst e; rw [hr2] at hb; cases hb
        have hXb : X b = none := hd.x (by simp only [upd, if_neg hb2]; rw [hb]; simp)
        rw [over_hi hXb]; simp only [upd, if_neg hb2]; exact hb
      simp (disch := omega) only [go_sem, Nat.reduceEqDiff, Nat.reduceAdd, Nat.reduceMul, Nat.reduceSub, Nat.reduceLeDiff, ↓reduceIte, reduceCtorEq, Int.reduceAdd, Int.reduceSub, Int.reduceMul, Int.reduceNeg, Int.reduceToNat, List.reduceReplicate, String.reduceEq]
      refine dwp_rangeY 81 [.optr rs 0] (lineB rs s) ((linesG s).map fun l => [.str l]) (lines_iter G s (by omega) rs) rfl (by kernel_rfl) (by simp) (upd H r2 (some (DObj.cells (zeroC.map dI) 23))) (X3 defC (List.replicate 58 false) (false)) (by rw [hX3]; exact over3 _ _ _ _ _ n4 n5 n6) (by rw [hX3]; exact (((Disj.h0 _).hi hr4' _).hi hr5' _).hi hr6' _) ((Disj.h0 _).hi hrs' _) (fun b hb => by
          rw [hX3] at hb
          have : b ≠ rs := fun e => hb (by subst e; simp [upd, h0, n4, n5, n6])
          simp [lineB, upd, this, h0])
        (fun k X => ∃ st, foldC (rd0 58) ((linesT s).take k) = some st ∧ st.c.length = 58 ∧ st.seen.length = 58 ∧ X = X3 st.c st.seen (false))
        (fun c X => c = .exit 0 ∧ readC s = none ∧ ∃ c sn, X = X3 c sn false) ⟨rd0 58, by simp [foldC], rfl, by simp [rd0], rfl⟩ ?_ ?_ ?_
      · rintro k x Hi X hd hx ⟨st, hst, hc, hsn, rfl⟩
        rw [List.getElem?_map, Option.map_eq_some_iff] at hx
        obtain ⟨ln, hln, rfl⟩ := hx
        have hlt : (linesT s)[k]? = some (Lib.trimSuffix ln [10]) := by rw [linesT, List.getElem?_map, hln]; rfl
        have hll : ln.length ≤ 1000000 := Nat.le_trans (linesG_len s ln (List.mem_of_getElem? hln)) hs
        have hwl : (Lib.trimSuffix ln [10]).length ≤ 1000000 := Nat.le_trans (trim_len ln) hll
        generalize hw : Lib.trimSuffix ln [10] = w at hlt hwl
        have hnx := foldC_take _ _ _ _ _ hst hlt
        have hbadr := fun h => read_bad hst hlt h
        have hnb := namedC_bounds (wordOf w)
        have hrl := rest_len w
        have hcl : (st.c.map dI).length = 58 := by rw [List.length_map, hc]
        have hsl : (st.seen.map DVal.bool).length = 58 := by rw [List.length_map, hsn]
        have hX := hX3 st.c st.seen (false)
        have hX0 := hX3 st.c st.seen false
        have hd2 := hd
        rw [hX] at hd2
        have hbad : stepC st w = none → ∃ X, over Hi (X3 st.c st.seen false) = over Hi X ∧ Disj Hi X ∧ readC s = none ∧ ∃ c sn, X = X3 c sn false := fun h => by
          refine ⟨_, rfl, ?_, hbadr h, _, _, rfl⟩
          rw [hX0]
          have := hd2.st (r := r6) (by simp [upd]; rfl) (some (.cells [.bool false] 4))
          rwa [upd_upd] at this
        rw [hX]
        simp (disch := omega) only [go_sem, Nat.reduceEqDiff, Nat.reduceAdd, Nat.reduceMul, Nat.reduceSub, Nat.reduceLeDiff, ↓reduceIte, reduceCtorEq, Int.reduceAdd, Int.reduceSub, Int.reduceMul, Int.reduceNeg, Int.reduceToNat, List.reduceReplicate, String.reduceEq]
        refine (trimSuffix_spec (G := G) ln [10] (by omega)).mono ?_
        rintro _ H1 ⟨rfl, rfl⟩
        rw [hw]
        simp (disch := omega) only [go_sem, Nat.reduceEqDiff, Nat.reduceAdd, Nat.reduceMul, Nat.reduceSub, Nat.reduceLeDiff, ↓reduceIte, reduceCtorEq, Int.reduceAdd, Int.reduceSub, Int.reduceMul, Int.reduceNeg, Int.reduceToNat, List.reduceReplicate, String.reduceEq]
        refine (cut_spec hT w [32] (by omega)).mono ?_
        rintro _ H1 ⟨rfl, rfl⟩
        rw [show (Lib.cut w [32]).1 = wordOf w from rfl, show (Lib.cut w [32]).2.1 = restOf w from rfl]
        simp (disch := omega) only [go_sem, Nat.reduceEqDiff, Nat.reduceAdd, Nat.reduceMul, Nat.reduceSub, Nat.reduceLeDiff, ↓reduceIte, reduceCtorEq, Int.reduceAdd, Int.reduceSub, Int.reduceMul, Int.reduceNeg, Int.reduceToNat, List.reduceReplicate, String.reduceEq]
        refine (named_spec hG _ (wordOf w)).mono ?_
        rintro _ H1 ⟨rfl, rfl⟩
        simp (disch := omega) only [go_sem, Nat.reduceEqDiff, Nat.reduceAdd, Nat.reduceMul, Nat.reduceSub, Nat.reduceLeDiff, ↓reduceIte, reduceCtorEq, Int.reduceAdd, Int.reduceSub, Int.reduceMul, Int.reduceNeg, Int.reduceToNat, List.reduceReplicate, String.reduceEq]
        refine (parseInt_spec hT (restOf w) (by omega)).mono ?_
        rintro _ H1 ⟨⟨v, er, rfl, hpi⟩, rfl⟩
        by_cases c1 : 1 ≤ namedC (wordOf w)
        · have ho : (namedC (wordOf w)).toNat < 58 := by omega
          have hget : (st.seen.map DVal.bool)[(namedC (wordOf w)).toNat]? = some (.bool (st.seen.getD (namedC (wordOf w)).toNat false)) := by
            rw [List.getElem?_map, List.getElem?_eq_getElem (by omega), List.getD, List.getElem?_eq_getElem (by omega)]; rfl
          cases c2 : st.seen.getD (namedC (wordOf w)).toNat false with
          | true =>
            rw [c2] at hget
            simp (disch := omega) only [go_sem, Nat.reduceEqDiff, Nat.reduceAdd, Nat.reduceMul, Nat.reduceSub, Nat.reduceLeDiff, ↓reduceIte, reduceCtorEq, Int.reduceAdd, Int.reduceSub, Int.reduceMul, Int.reduceNeg, Int.reduceToNat, List.reduceReplicate, String.reduceEq, c1, m1, m2, m3, m4, m5, m6, hcl, hsl, hget, List.length_cons, List.length_nil]
            rw [← hX0]
            refine hbad ?_
            unfold stepC
            cases hp : partC w with
            | none => rfl
            | some p =>
              have := (partC_iff (o := p.1) (v := p.2)).1 hp
              have hn : (namedC (wordOf w)).toNat = p.1 := by
                obtain ⟨h1, h2, _, _, rfl⟩ := this
                have hcut := cut_at (nameC p.1) (Lib.itoa p.2) 32 (nameC_no h1 h2 32 (by decide))
                rw [wordOf, hcut, namedC_name h1 h2]; omega
              rw [hn] at c2
              simp only [c2, if_true]
          | false =>
            rw [c2] at hget
            cases hp : pI (restOf w) with
            | none =>
              obtain ⟨t, x, rfl⟩ := hpi.2 (fun n hn => by rw [pI, hn] at hp; cases hp)
              simp (disch := omega) only [go_sem, Nat.reduceEqDiff, Nat.reduceAdd, Nat.reduceMul, Nat.reduceSub, Nat.reduceLeDiff, ↓reduceIte, reduceCtorEq, Int.reduceAdd, Int.reduceSub, Int.reduceMul, Int.reduceNeg, Int.reduceToNat, List.reduceReplicate, String.reduceEq, c1, m1, m2, m3, m4, m5, m6, hcl, hsl, hget, List.length_cons, List.length_nil]
              rw [← hX0]
              exact hbad (by rw [stepC, partC, hp])
            | some n =>
              obtain ⟨rfl, rfl⟩ := hpi.1 n (by
                unfold pI at hp
                split at hp
                · rename_i e; cases hp; exact e
                · cases hp)
              have hi64 := pI_i64 hp
              by_cases c3 : v < 1
              · simp (disch := omega) only [go_sem, Nat.reduceEqDiff, Nat.reduceAdd, Nat.reduceMul, Nat.reduceSub, Nat.reduceLeDiff, ↓reduceIte, reduceCtorEq, Int.reduceAdd, Int.reduceSub, Int.reduceMul, Int.reduceNeg, Int.reduceToNat, List.reduceReplicate, String.reduceEq, c1, m1, m2, m3, m4, m5, m6, hcl, hsl, hget, c3, List.length_cons, List.length_nil]
                rw [← hX0]
                exact hbad (by rw [stepC, partC, hp]; simp only; rw [if_neg (by omega)])
              by_cases c4 : 1000 < v
              · simp (disch := omega) only [go_sem, Nat.reduceEqDiff, Nat.reduceAdd, Nat.reduceMul, Nat.reduceSub, Nat.reduceLeDiff, ↓reduceIte, reduceCtorEq, Int.reduceAdd, Int.reduceSub, Int.reduceMul, Int.reduceNeg, Int.reduceToNat, List.reduceReplicate, String.reduceEq, c1, m1, m2, m3, m4, m5, m6, hcl, hsl, hget, c3, c4, List.length_cons, List.length_nil]
                rw [← hX0]
                exact hbad (by rw [stepC, partC, hp]; simp only; rw [if_neg (by omega)])
              by_cases c5 : Lib.itoa v = restOf w
              · have hset1 := splice_setA DVal.bool st.seen (namedC (wordOf w)).toNat true (by omega)
                have hset2 := splice_setA dI st.c (namedC (wordOf w)).toNat v (by omega)
                have hst2 : stepC st w = some ⟨st.c.set (namedC (wordOf w)).toNat v, st.seen.set (namedC (wordOf w)).toNat true⟩ := by
                  rw [stepC, partC, hp]; simp only; rw [if_pos ⟨c1, by omega, by omega, c5⟩]; simp only [c2]; rfl
                simp (disch := omega) only [go_sem, Nat.reduceEqDiff, Nat.reduceAdd, Nat.reduceMul, Nat.reduceSub, Nat.reduceLeDiff, ↓reduceIte, reduceCtorEq, Int.reduceAdd, Int.reduceSub, Int.reduceMul, Int.reduceNeg, Int.reduceToNat, List.reduceReplicate, String.reduceEq, c1, m1, m2, m3, m4, m5, m6, hcl, hsl, hget, c3, c4, List.length_cons, List.length_nil]
                refine (formatInt_spec hG2 v hi64).mono ?_
                rintro _ H1 ⟨rfl, rfl⟩
                simp (disch := omega) only [go_sem, Nat.reduceEqDiff, Nat.reduceAdd, Nat.reduceMul, Nat.reduceSub, Nat.reduceLeDiff, ↓reduceIte, reduceCtorEq, Int.reduceAdd, Int.reduceSub, Int.reduceMul, Int.reduceNeg, Int.reduceToNat, List.reduceReplicate, String.reduceEq, c1, m1, m2, m3, m4, m5, m6, hcl, hsl, hget, c3, c4, c5, hset1, hset2, List.length_cons, List.length_nil]
                refine ⟨_, rfl, ?_, ⟨st.c.set (namedC (wordOf w)).toNat v, st.seen.set (namedC (wordOf w)).toNat true⟩, by rw [hnx, hst2], by simp [hc], by simp [hsn], ?_⟩
                · refine Disj.st (r := r4) (Disj.st (r := r5) hd2 (by simp [upd, m5]; rfl) _) (by simp [upd, m1, m3]; rfl) _
                · rw [hX3]
                  funext i
                  simp only [upd]
                  by_cases j1 : i = r4
                  · subst j1; simp [m1, m3]
                  · by_cases j2 : i = r5
                    · subst j2; simp [m2, m5]
                    · simp [j1, j2]
              · simp (disch := omega) only [go_sem, Nat.reduceEqDiff, Nat.reduceAdd, Nat.reduceMul, Nat.reduceSub, Nat.reduceLeDiff, ↓reduceIte, reduceCtorEq, Int.reduceAdd, Int.reduceSub, Int.reduceMul, Int.reduceNeg, Int.reduceToNat, List.reduceReplicate, String.reduceEq, c1, m1, m2, m3, m4, m5, m6, hcl, hsl, hget, c3, c4, List.length_cons, List.length_nil]
                refine (formatInt_spec hG2 v hi64).mono ?_
                rintro _ H1 ⟨rfl, rfl⟩
                simp (disch := omega) only [go_sem, Nat.reduceEqDiff, Nat.reduceAdd, Nat.reduceMul, Nat.reduceSub, Nat.reduceLeDiff, ↓reduceIte, reduceCtorEq, Int.reduceAdd, Int.reduceSub, Int.reduceMul, Int.reduceNeg, Int.reduceToNat, List.reduceReplicate, String.reduceEq, c1, m1, m2, m3, m4, m5, m6, hcl, hsl, hget, c3, c4, c5, List.length_cons, List.length_nil]
                rw [← hX0]
                exact hbad (by rw [stepC, partC, hp]; simp only; rw [if_neg (fun h => c5 h.2.2.2)])
        · simp (disch := omega) only [go_sem, Nat.reduceEqDiff, Nat.reduceAdd, Nat.reduceMul, Nat.reduceSub, Nat.reduceLeDiff, ↓reduceIte, reduceCtorEq, Int.reduceAdd, Int.reduceSub, Int.reduceMul, Int.reduceNeg, Int.reduceToNat, List.reduceReplicate, String.reduceEq, c1, m1, m2, m3, m4, m5, m6, hcl, hsl, List.length_cons, List.length_nil]
          rw [← hX0]
          refine hbad ?_
          rw [stepC, partC]
          cases pI (restOf w) with
          | none => rfl
          | some v => simp only; rw [if_neg (fun h => c1 h.1)]
      · rintro X hd ⟨st, hst, hc, hsn, rfl⟩
        rw [List.length_map, show (linesG s).length = (linesT s).length by simp [linesT], List.take_length] at hst
        have hrd := read_good hst
        have hcl : (st.c.map dI).length = 58 := by rw [List.length_map, hc]
        have hct : (st.c.map dI).take 58 = st.c.map dI := List.take_of_length_le (by omega)
        have hca : (st.c.map dI).all (fun d => d.one) = true := ints_one _
        rw [hX3] at hd ⊢
        simp (disch := omega) only [go_sem, Nat.reduceEqDiff, Nat.reduceAdd, Nat.reduceMul, Nat.reduceSub, Nat.reduceLeDiff, ↓reduceIte, reduceCtorEq, Int.reduceAdd, Int.reduceSub, Int.reduceMul, Int.reduceNeg, Int.reduceToNat, List.reduceReplicate, String.reduceEq, m1, m2, m3, m4, m5, m6, p4, p5, p6, q4, q5, q6, hcl, hct, hca, hzl, hzd, hz, hza, hzt, List.append_nil, over_h0, upd_same]
        first
          | exact DFin.sub (hsub _ _ hd) (DFin.refl ⟨by rw [readCD, hrd, if_pos (hfv.1 rfl)], rfl⟩)
          | exact DFin.sub (hsub _ _ hd) (DFin.refl ⟨by rw [readCD_none (by rw [hrd, if_neg (fun h => by have := hfv.2 h; cases this)])], rfl⟩)
          | fail
      · rintro c X hd ⟨rfl, hrd, c, sn, rfl⟩
        rw [hX3] at hd ⊢
        simp only [DJump, DBlockQ, decide_true, dBlockE, DSeqQ]
        simp (disch := omega) only [go_sem, Nat.reduceEqDiff, Nat.reduceAdd, Nat.reduceMul, Nat.reduceSub, Nat.reduceLeDiff, ↓reduceIte, reduceCtorEq, Int.reduceAdd, Int.reduceSub, Int.reduceMul, Int.reduceNeg, Int.reduceToNat, List.reduceReplicate, String.reduceEq, m1, m2, m3, m4, m5, m6, p4, p5, p6, q4, q5, q6, hzl, hzd, hz, hza, hzt, List.append_nil, over_h0, upd_same]
        first
          | exact DFin.sub (hsub _ _ hd) (DFin.refl ⟨by rw [readCD_none hrd], rfl⟩)
          | fail
end Go.Dl
