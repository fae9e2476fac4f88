/- The data level and the contracts of the functions that are reached (part 7). -/
import Derived.Test.YtocmbkaaioomdaaDoorMf
set_option linter.unusedSimpArgs false
set_option linter.unusedVariables false
-- Chapter 35: Read.
namespace Go.Dl
open Go Go.Proofs
set_option maxRecDepth 10000

section
variable {H H' : DHeap} {e : TypeId} {size n : Nat} {cs : List DVal} {v : DVal}
theorem OwnJ.reb {q : Nat} {o o' : DObj} (h : OwnJ (upd H q (some o)) e size n cs v H') : OwnJ (upd H q (some o')) e size n cs v (upd H' q (some o')) := by
  have hs : ∀ {H'' : DHeap}, Sub (upd H q (some o)) H'' → Sub (upd H q (some o')) (upd H'' q (some o')) := fun k r x hx => by
    by_cases e : r = q
    · subst e; rw [upd_same] at hx ⊢; exact hx
    · simp only [upd, if_neg e] at hx ⊢; exact k r x (by simp only [upd, if_neg e]; exact hx)
  rcases h with ⟨a, b, c, d⟩ | ⟨r, a, b, c, d, f⟩
  · exact .inl ⟨a, b, c, hs d⟩
  · have : r ≠ q := fun e => by subst e; rw [upd_same] at a; cases a
    exact .inr ⟨r, by simp only [upd, if_neg this] at a ⊢; exact a, b, c, by simp only [upd, if_neg this]; exact d, hs f⟩
theorem OwnJ.ghostT (hv : OwnJ H e size n cs v H') {ds : List DVal} (hd : ∀ r cs, fzs r cs ds = ds) : GhostE H' (.tuple (v :: ds)) H (.tuple (.vslice cs n :: ds)) := by
  obtain ⟨H1, h1, h2⟩ := hv.exact
  exact (GhostE.sub h2 _).trans (h1.ghostT hd)
theorem OwnJ.len (h : OwnJ H e size n cs v H') {dst : Option Nat} {K : DK} {s : DS} {t : TypeId} : dLen dst (some (.slice t)) v K s = dput dst (dI n) K s := by
  rcases h with ⟨rfl, h1, rfl, _⟩ | ⟨r, _, h1, rfl, h2, _⟩ <;> rfl
end

theorem repl1 (zs : List DVal) : repl 1 zs = zs := by simp [repl]
attribute [go_sem] repl1
/-- A slice of acts that is being built. -/
def OAJ (H : DHeap) (l : List Act) (v : DVal) (H' : DHeap) : Prop := OwnJ H 37 6 l.length (l.flatMap dAct) v H'
theorem OAJ.app {H H0 : DHeap} {l : List Act} {x : Act} {v : DVal} {dst : Option Nat} {K : DK} {env : Nat → DVal} {bytes : Nat} (hv : OAJ H l v H0) (hb : (l.length + 1) * bytes ≤ 35184372088832)
    (hK : ∀ v' H', OAJ H (l ++ [x]) v' H' → K ⟨updO env dst v', H'⟩) : dAppendTo 37 6 bytes 1 (dAct x) dst v K ⟨env, H0⟩ := by
  refine OwnJ.append hv (by simp [dAct]) hb fun v' H' h' => hK v' H' ?_
  unfold OAJ
  simpa using h'

theorem dActs_nil : dActs [] = .vslice [] 0 := rfl
theorem lf_step {s : List UInt8} {i from' : Nat} (hi : from' ≤ i) (hl : i < s.length) (hc : s[i] = 10) (hn : ∀ j, from' ≤ j → j < i → s[j]? ≠ some 10) : s.drop from' = (s.drop from').take (i - from') ++ 10 :: s.drop (i + 1) ∧ ∀ c ∈ (s.drop from').take (i - from'), c ≠ 10 := by
  constructor
  · have e1 : s.drop from' = (s.drop from').take (i - from') ++ (s.drop from').drop (i - from') := (List.take_append_drop _ _).symm
    have e2 : (s.drop from').drop (i - from') = 10 :: s.drop (i + 1) := by
      rw [List.drop_drop, show from' + (i - from') = i by omega, List.drop_eq_getElem_cons hl, hc]
    rw [e2] at e1; exact e1
  · intro c hc' e
    subst e
    obtain ⟨j, hj, he⟩ := List.mem_take_iff_getElem.1 hc'
    rw [List.getElem_drop] at he
    have hj2 : from' + j < s.length := by simp at hj; omega
    refine hn (from' + j) (by omega) (by simp at hj; omega) ?_
    rw [List.getElem?_eq_getElem hj2, he]

theorem early_last {l : List Act} {x : Act} (h : l ≠ []) : early l x = decide (x.time < (l.getD (l.length - 1) default).time) := by
  have hp := List.length_pos_iff.2 h
  rw [early, List.getLast?_eq_getElem?, List.getD, List.getElem?_eq_getElem (by omega)]
  rfl

theorem read_spec {G : Nat → DVal} (hG : GT G) (hG0 : G 0 = .vptr dKinds 0) (hG4 : G 4 = .vptr dPow 0) (H : DHeap) (s : List UInt8) (hs : s.length ≤ 1000000000) :
    DCalls Tryd.prog G 15 [.str s] H (DRet (.tuple [dActs (readL s).1, dI (readL s).2.1, dI (readL s).2.2]) H) := by
  refine dcalls_intro Tryd.func15 Tryd.call15 rfl (by kernel_rfl) ?_
  by_cases c1 : 8388608 < s.length
  · simp (disch := omega) only [go_sem, Nat.reduceEqDiff, Nat.reduceAdd, Nat.reduceMul, Nat.reduceSub, Nat.reduceLeDiff, ↓reduceIte, reduceCtorEq, Int.reduceAdd, Int.reduceSub, Int.reduceMul, Int.reduceNeg, Int.reduceToNat, List.reduceReplicate, String.reduceEq]
    refine DFin.le (v' := .tuple [dActs [], dI 0, dI 3]) (DLe.tuple (.cons .nil (.refl _))) (DFin.refl ⟨?_, rfl⟩)
    rw [readL, if_pos c1]
  simp (disch := omega) only [go_sem, Nat.reduceEqDiff, Nat.reduceAdd, Nat.reduceMul, Nat.reduceSub, Nat.reduceLeDiff, ↓reduceIte, reduceCtorEq, Int.reduceAdd, Int.reduceSub, Int.reduceMul, Int.reduceNeg, Int.reduceToNat, List.reduceReplicate, String.reduceEq]
  intro ri hri
  have hrl : readL s = rdL s [] := by rw [readL, if_neg c1]
  rw [hrl]
  obtain ⟨I, hI⟩ : ∃ I : Nat × Nat × List Act → (Nat → DVal) → DHeap → Prop, ∀ ix env heap, I ix env heap ↔ (env 0 = .str s ∧ env 5 = dI ix.1 ∧ env 14 = .optr ri 0 ∧ ix.1 ≤ ix.2.1 ∧ ix.2.1 ≤ s.length ∧ heap ri = some (.iter s ix.2.1) ∧ (∀ j, ix.1 ≤ j → j < ix.2.1 → s[j]? ≠ some 10) ∧ rdL (s.drop ix.1) ix.2.2 = rdL s [] ∧ ix.2.2.length ≤ ix.1 ∧ OAJ (upd H ri (some (.iter s ix.2.1))) ix.2.2 (env 2) heap) := ⟨_, fun _ _ _ => Iff.rfl⟩
  refine DLoop.run I (fun ix => s.length - ix.2.1) (0, 0, []) ((hI _ _ _).2 ?_) ?_
  · simp (disch := omega) only [go_sem, Nat.reduceEqDiff, Nat.reduceAdd, Nat.reduceMul, Nat.reduceSub, Nat.reduceLeDiff, ↓reduceIte, reduceCtorEq, Int.reduceAdd, Int.reduceSub, Int.reduceMul, Int.reduceNeg, Int.reduceToNat, List.reduceReplicate, String.reduceEq]
    (repeat' apply And.intro) <;> (try first | rfl | assumption | omega)
    exact OwnJ.nil _ _ (Sub.refl _)
  · rintro ⟨fr, pos, acc⟩ env heap hi
    obtain ⟨h0, h5, h14, hfp, hps, hit, hnl, hrd, hal, hv⟩ := (hI _ _ _).1 hi
    dsimp only at h5 hfp hps hit hnl hrd hal hv
    by_cases hlt : pos < s.length
    · obtain ⟨w1, w2, w3, w4, w5⟩ := rune_lf s pos hlt
      by_cases c2 : (runeAt s pos).1 = 10
      · have c10 := w3.1 c2
        have hw := w4 c10
        obtain ⟨lf1, lf2⟩ := lf_step hfp hlt c10 hnl
        have e0 : ((pos : Int) + 1).toNat = pos + 1 := by omega
        have e1 : (s.drop fr).take (pos + 1 - fr) = (s.drop fr).take (pos - fr) ++ [10] := by
          conv => lhs; rw [lf1]
          have hwl : ((s.drop fr).take (pos - fr)).length = pos - fr := by simp; omega
          rw [List.take_append, List.take_of_length_le (by omega), hwl, show pos + 1 - fr - (pos - fr) = 1 by omega]; rfl
        obtain ⟨w, hww⟩ : ∃ w, (s.drop fr).take (pos - fr) = w := ⟨_, rfl⟩
        rw [hww] at lf1 lf2 e1
        have hwlen : (w ++ [10]).length ≤ 1000000000 := by rw [← e1]; simp; omega
        simp (disch := omega) only [go_sem, Nat.reduceEqDiff, Nat.reduceAdd, Nat.reduceMul, Nat.reduceSub, Nat.reduceLeDiff, ↓reduceIte, reduceCtorEq, Int.reduceAdd, Int.reduceSub, Int.reduceMul, Int.reduceNeg, Int.reduceToNat, List.reduceReplicate, String.reduceEq, h0, h5, h14, hit, hlt, c2, hw, e0, e1]
        have hbase := OwnJ.reb (o' := .iter s (pos + 1)) hv
        rw [lf1, rdL_line lf2] at hrd
        have bad : ∀ heap', Sub H heap' → stepR w acc = none → DFin (fun e H' => e = .ret (.tuple [dActs (rdL s []).1, dI (rdL s []).2.1, dI (rdL s []).2.2]) ∧ H' = H) (.tuple [.nilSlice, dI ((acc.length : Int) + 1), dI 350]) heap' := fun heap' hsub hst => by
          refine DFin.sub hsub (DFin.le (v' := .tuple [dActs [], dI ((acc.length : Int) + 1), dI 350]) (DLe.tuple (.cons .nil (.refl _))) (DFin.refl ⟨?_, rfl⟩))
          rw [hst] at hrd
          rw [← hrd]
        have hsub0 : Sub H (upd heap ri (some (.iter s (pos + 1)))) := ((Sub.refl H).up hri _).trans (OwnJ.sub hbase)
        refine (act_spec hG hG0 hG4 _ (w ++ [10]) hwlen).mono ?_
        rintro _ H1 ⟨⟨x, ok, rfl, ok1, ok2⟩, rfl⟩
        simp (disch := omega) only [go_sem, Nat.reduceEqDiff, Nat.reduceAdd, Nat.reduceMul, Nat.reduceSub, Nat.reduceLeDiff, ↓reduceIte, reduceCtorEq, Int.reduceAdd, Int.reduceSub, Int.reduceMul, Int.reduceNeg, Int.reduceToNat, List.reduceReplicate, String.reduceEq, h0, h5, h14]
        intro ra hra; dsimp only at hra
        have hsub1 := hsub0.new hra (some (.cells (dAct x) 37))
        have hra2 : heap ra = none := by
          have h := hra
          simp only [upd] at h; split at h
          · cases h
          · exact h
        have d1 : ¬ ri = ra := fun e => by subst e; rw [hit] at hra2; cases hra2
        have d2 : ¬ ra = ri := fun e => d1 e.symm
        have hxl : (dAct x).length = 6 := rfl
        have hxt : (dAct x).take 6 = dAct x := rfl
        have hxd : (dAct x).drop 6 = [] := rfl
        have hxo : ((dAct x).all fun x => x.one) = true := rfl
        have hxc : (DVal.agg (dAct x)).cells = dAct x := rfl
        have hx0 : (dAct x)[0]? = some (dI x.time) := rfl
        have hlen : ∀ {dst : Option Nat} {K : DK} {s : DS} {t : TypeId}, dLen dst (some (.slice t)) (env 2) K s = dput dst (dI acc.length) K s := fun {_ _ _ _} => hv.len
        have hov := OwnJ.new (e := 37) (size := 6) (n := acc.length) (cs := acc.flatMap dAct) hbase hra (some (.cells (dAct x) 37))
        simp (disch := omega) only [go_sem, Nat.reduceEqDiff, Nat.reduceAdd, Nat.reduceMul, Nat.reduceSub, Nat.reduceLeDiff, ↓reduceIte, reduceCtorEq, Int.reduceAdd, Int.reduceSub, Int.reduceMul, Int.reduceNeg, Int.reduceToNat, List.reduceReplicate, String.reduceEq, h0, h5, h14, d1, d2, hxl, hxt, hxd, hxo, hxc, List.append_nil]
        refine dwp_draws (by kernel_rfl) (.take 0 (.take 1 (.take 2 (.take 3 (.take 4 (.take 5 (.take 6 (.take 7 (.take 8 (.take 9 (.take 10 (.take 11 (.take 12 (.take 13 (.take 14 (.take 15 (.take 16 (.take 17 (.take 18 (.take 19 (.take 20 (.take 21 (.take 22 (.take 23 .done)))))))))))))))))))))))) (by kernel_rfl) ?_
        simp (disch := omega) only [go_sem, Nat.reduceEqDiff, Nat.reduceAdd, Nat.reduceMul, Nat.reduceSub, Nat.reduceLeDiff, ↓reduceIte, reduceCtorEq, Int.reduceAdd, Int.reduceSub, Int.reduceMul, Int.reduceNeg, Int.reduceToNat, List.reduceReplicate, String.reduceEq, h0, h5, h14, d1, d2, hxl, hxt, hxd, hxo, hxc, hx0, List.append_nil]
        cases ok with
        | false =>
          simp (disch := omega) only [go_sem, Nat.reduceEqDiff, Nat.reduceAdd, Nat.reduceMul, Nat.reduceSub, Nat.reduceLeDiff, ↓reduceIte, reduceCtorEq, Int.reduceAdd, Int.reduceSub, Int.reduceMul, Int.reduceNeg, Int.reduceToNat, List.reduceReplicate, String.reduceEq, h0, h5, h14, d1, d2, hlen]
          refine bad _ hsub1 ?_
          rw [stepR, actOf_none fun y hy => by have := ok2 ⟨y, (textOf_line y w).1 hy⟩; cases this]
        | true =>
          have hst : stepR w acc = if acc.length = 100000 ∨ early acc x = true then none else some (acc ++ [x]) := by
            rw [stepR, actOf_some ((textOf_line x w).2 (ok1 rfl))]
          by_cases c3 : acc.length = 100000
          · have c3' : (acc.length : Int) = 100000 := by omega
            simp (disch := omega) only [go_sem, Nat.reduceEqDiff, Nat.reduceAdd, Nat.reduceMul, Nat.reduceSub, Nat.reduceLeDiff, ↓reduceIte, reduceCtorEq, Int.reduceAdd, Int.reduceSub, Int.reduceMul, Int.reduceNeg, Int.reduceToNat, List.reduceReplicate, String.reduceEq, h0, h5, h14, d1, d2, hlen, c3']
            rw [show (DVal.int .i64 100001) = dI ((acc.length : Int) + 1) by rw [c3']; rfl]
            refine bad _ hsub1 ?_
            rw [hst, if_pos (.inl c3)]
          · have c3' : ¬ (acc.length : Int) = 100000 := by omega
            by_cases hz : acc.length = 0
            · have hz0 : acc = [] := List.length_eq_zero_iff.1 hz
              subst hz0
              simp (disch := omega) only [go_sem, Nat.reduceEqDiff, Nat.reduceAdd, Nat.reduceMul, Nat.reduceSub, Nat.reduceLeDiff, ↓reduceIte, reduceCtorEq, Int.reduceAdd, Int.reduceSub, Int.reduceMul, Int.reduceNeg, Int.reduceToNat, List.reduceReplicate, String.reduceEq, h0, h5, h14, d1, d2, hlen, c3', hxl, hxt, hxd, hxo, hxc, List.append_nil]
              have hst' : stepR w [] = some ([] ++ [x]) := by rw [hst]; simp [early]
              rw [hst'] at hrd
              intro rl hrl2; dsimp only at hrl2
              simp (disch := omega) only [go_sem, Nat.reduceEqDiff, Nat.reduceAdd, Nat.reduceMul, Nat.reduceSub, Nat.reduceLeDiff, ↓reduceIte, reduceCtorEq, Int.reduceAdd, Int.reduceSub, Int.reduceMul, Int.reduceNeg, Int.reduceToNat, List.reduceReplicate, String.reduceEq, hxl, hxt, hxo]
              refine OAJ.app (bytes := 48) (OwnJ.new hov hrl2 _) (by simp) fun v2 H2 hv2 => ?_
              simp (disch := omega) only [go_sem, Nat.reduceEqDiff, Nat.reduceAdd, Nat.reduceMul, Nat.reduceSub, Nat.reduceLeDiff, ↓reduceIte, reduceCtorEq, Int.reduceAdd, Int.reduceSub, Int.reduceMul, Int.reduceNeg, Int.reduceToNat, List.reduceReplicate, String.reduceEq, h0, h5, h14]
              have hit2 : H2 ri = some (.iter s (pos + 1)) := OwnJ.keep hv2 (upd_same _ _ _)
              refine ⟨(pos + 1, pos + 1, [] ++ [x]), _, GhostS.refl _, (hI _ _ _).2 ?_, by dsimp only; omega⟩
              simp (disch := omega) only [go_sem, Nat.reduceEqDiff, Nat.reduceAdd, Nat.reduceMul, Nat.reduceSub, Nat.reduceLeDiff, ↓reduceIte, reduceCtorEq, Int.reduceAdd, Int.reduceSub, Int.reduceMul, Int.reduceNeg, Int.reduceToNat, List.reduceReplicate, String.reduceEq, h0, h5, h14]
              (repeat' apply And.intro) <;> (try first | rfl | assumption | omega)
            · have hne : acc ≠ [] := fun e => hz (by rw [e]; rfl)
              have hel := early_last (x := x) hne
              have ht := act_time acc (acc.length - 1) (by omega)
              have hg : acc.getD (acc.length - 1) default = acc[acc.length - 1] := by simp [List.getD, List.getElem?_eq_getElem (show acc.length - 1 < acc.length by omega)]
              rw [hg] at hel
              obtain ⟨rv, hrv, hcl, h2, hrc, hrs⟩ : ∃ r, upd H ri (some (.iter s pos)) r = none ∧ (acc.flatMap dAct).length = acc.length * 6 ∧ env 2 = .oslice 6 r 0 acc.length acc.length ∧ heap r = some (.cells (acc.flatMap dAct) 37) ∧ Sub (upd H ri (some (.iter s pos))) heap := hv.resolve_left fun h => hz h.1
              have d3 : ¬ rv = ri := fun e => by subst e; rw [upd_same] at hrv; cases hrv
              have d4 : ¬ rv = ra := fun e => by subst e; rw [hrc] at hra2; cases hra2
              have hw2 : IntKind.i64.wrap ((acc.length : Int) - 1) = (acc.length : Int) - 1 := by rw [IntKind.wrap_i64]; omega
              have hw3 : ((acc.length : Int) - 1).toNat = acc.length - 1 := by omega
              have hix : ∀ {dst : Option Nat} {K : DK} {s : DS}, dIndexAddr Tryd.prog dst (some (.slice 37)) (env 2) (.int .i64 ((acc.length : Int) - 1)) K s = dput dst (.optr rv ((acc.length - 1) * 6)) K s := by
                intro dst K s
                rw [h2]
                simp (disch := omega) only [go_sem, Nat.reduceEqDiff, Nat.reduceAdd, Nat.reduceMul, Nat.reduceSub, Nat.reduceLeDiff, ↓reduceIte, reduceCtorEq, Int.reduceAdd, Int.reduceSub, Int.reduceMul, Int.reduceNeg, Int.reduceToNat, List.reduceReplicate, String.reduceEq, hw3]
              by_cases c5 : x.time < acc[acc.length - 1].time
              · simp (disch := omega) only [go_sem, Nat.reduceEqDiff, Nat.reduceAdd, Nat.reduceMul, Nat.reduceSub, Nat.reduceLeDiff, ↓reduceIte, reduceCtorEq, Int.reduceAdd, Int.reduceSub, Int.reduceMul, Int.reduceNeg, Int.reduceToNat, List.reduceReplicate, String.reduceEq, h0, h5, h14, d1, d2, d3, d4, hlen, hix, hrc, c3', hxl, hxt, hxd, hxo, hxc, hx0, hw2, hw3, ht, hcl]
                refine bad _ hsub1 ?_
                rw [hst, if_pos (.inr (by rw [hel]; exact decide_eq_true c5))]
              · have hst' : stepR w acc = some (acc ++ [x]) := by rw [hst, if_neg]; rw [hel]; simp [c3, c5]
                rw [hst'] at hrd
                simp (disch := omega) only [go_sem, Nat.reduceEqDiff, Nat.reduceAdd, Nat.reduceMul, Nat.reduceSub, Nat.reduceLeDiff, ↓reduceIte, reduceCtorEq, Int.reduceAdd, Int.reduceSub, Int.reduceMul, Int.reduceNeg, Int.reduceToNat, List.reduceReplicate, String.reduceEq, h0, h5, h14, d1, d2, d3, d4, hlen, hix, hrc, c3', hxl, hxt, hxd, hxo, hxc, hx0, hw2, hw3, ht, hcl, List.append_nil]
                intro rl hrl2; dsimp only at hrl2
                simp (disch := omega) only [go_sem, Nat.reduceEqDiff, Nat.reduceAdd, Nat.reduceMul, Nat.reduceSub, Nat.reduceLeDiff, ↓reduceIte, reduceCtorEq, Int.reduceAdd, Int.reduceSub, Int.reduceMul, Int.reduceNeg, Int.reduceToNat, List.reduceReplicate, String.reduceEq, hxl, hxt, hxo]
                refine OAJ.app (bytes := 48) (OwnJ.new hov hrl2 _) (by have := hal; omega) fun v2 H2 hv2 => ?_
                simp (disch := omega) only [go_sem, Nat.reduceEqDiff, Nat.reduceAdd, Nat.reduceMul, Nat.reduceSub, Nat.reduceLeDiff, ↓reduceIte, reduceCtorEq, Int.reduceAdd, Int.reduceSub, Int.reduceMul, Int.reduceNeg, Int.reduceToNat, List.reduceReplicate, String.reduceEq, h0, h5, h14]
                have hit2 : H2 ri = some (.iter s (pos + 1)) := OwnJ.keep hv2 (upd_same _ _ _)
                refine ⟨(pos + 1, pos + 1, acc ++ [x]), _, GhostS.refl _, (hI _ _ _).2 ?_, by dsimp only; omega⟩
                simp (disch := omega) only [go_sem, Nat.reduceEqDiff, Nat.reduceAdd, Nat.reduceMul, Nat.reduceSub, Nat.reduceLeDiff, ↓reduceIte, reduceCtorEq, Int.reduceAdd, Int.reduceSub, Int.reduceMul, Int.reduceNeg, Int.reduceToNat, List.reduceReplicate, String.reduceEq, h0, h5, h14]
                (repeat' apply And.intro) <;> (try first | rfl | assumption | omega)
                simp; omega
      · have hi32 : ((runeAt s pos).1 : Int) ≠ 10 := by omega
        simp (disch := omega) only [go_sem, Nat.reduceEqDiff, Nat.reduceAdd, Nat.reduceMul, Nat.reduceSub, Nat.reduceLeDiff, ↓reduceIte, reduceCtorEq, Int.reduceAdd, Int.reduceSub, Int.reduceMul, Int.reduceNeg, Int.reduceToNat, List.reduceReplicate, String.reduceEq, h0, h5, h14, hit, hlt, hi32]
        refine ⟨(fr, pos + (runeAt s pos).2, acc), _, GhostS.refl _, (hI _ _ _).2 ?_, by dsimp only; omega⟩
        simp (disch := omega) only [go_sem, Nat.reduceEqDiff, Nat.reduceAdd, Nat.reduceMul, Nat.reduceSub, Nat.reduceLeDiff, ↓reduceIte, reduceCtorEq, Int.reduceAdd, Int.reduceSub, Int.reduceMul, Int.reduceNeg, Int.reduceToNat, List.reduceReplicate, String.reduceEq, h0, h5, h14]
        (repeat' apply And.intro) <;> (try first | rfl | assumption | omega)
        · intro j hj hj2
          by_cases e : j < pos
          · exact hnl j hj e
          · by_cases e2 : j = pos
            · subst e2; rw [List.getElem?_eq_getElem hlt]; intro e3; exact c2 (w3.2 (Option.some.inj e3))
            · exact w5 j (by omega) (by omega)
        · exact OwnJ.reb hv
    · have hpe : pos = s.length := by omega
      simp (disch := omega) only [go_sem, Nat.reduceEqDiff, Nat.reduceAdd, Nat.reduceMul, Nat.reduceSub, Nat.reduceLeDiff, ↓reduceIte, reduceCtorEq, Int.reduceAdd, Int.reduceSub, Int.reduceMul, Int.reduceNeg, Int.reduceToNat, List.reduceReplicate, String.reduceEq, h0, h5, h14, hit, hlt]
      by_cases c4 : fr < s.length
      · have hrn : rdL (s.drop fr) acc = ([], (acc.length : Int) + 1, 350) := rdL_none (fun e => by have := congrArg List.length e; simp at this; omega) (fun c hc e => by
          subst e
          obtain ⟨j, hj, he⟩ := List.mem_iff_getElem.1 hc
          rw [List.getElem_drop] at he
          simp at hj
          refine hnl (fr + j) (by omega) (by omega) ?_
          rw [List.getElem?_eq_getElem (by omega), he]) acc
        rw [hrn] at hrd
        have hlen : ∀ {dst : Option Nat} {K : DK} {s : DS} {t : TypeId}, dLen dst (some (.slice t)) (env 2) K s = dput dst (dI acc.length) K s := fun {_ _ _ _} => hv.len
        simp (disch := omega) only [go_sem, Nat.reduceEqDiff, Nat.reduceAdd, Nat.reduceMul, Nat.reduceSub, Nat.reduceLeDiff, ↓reduceIte, reduceCtorEq, Int.reduceAdd, Int.reduceSub, Int.reduceMul, Int.reduceNeg, Int.reduceToNat, List.reduceReplicate, String.reduceEq, h0, h5, h14, hlen]
        refine DFin.sub (((Sub.refl H).up hri _).trans (OwnJ.sub hv)) (DFin.le (v' := .tuple [dActs [], dI ((acc.length : Int) + 1), dI 350]) (DLe.tuple (.cons .nil (.refl _))) (DFin.refl ⟨?_, rfl⟩))
        rw [← hrd]
      · have hrn : rdL (s.drop fr) acc = (acc, 0, 0) := by rw [List.drop_of_length_le (by omega), rdL_nil]
        rw [hrn] at hrd
        simp (disch := omega) only [go_sem, Nat.reduceEqDiff, Nat.reduceAdd, Nat.reduceMul, Nat.reduceSub, Nat.reduceLeDiff, ↓reduceIte, reduceCtorEq, Int.reduceAdd, Int.reduceSub, Int.reduceMul, Int.reduceNeg, Int.reduceToNat, List.reduceReplicate, String.reduceEq, h0, h5, h14]
        refine DFin.ghost (OwnJ.ghostT (OwnJ.less hv ((Sub.refl H).up hri _)) (fun r cs => rfl)) (DFin.refl ⟨?_, rfl⟩)
        rw [← hrd]; rfl
end Go.Dl

-- Chapter 35: the reference's pieces and numbers.
namespace Go.Dl
open Go Go.Proofs
set_option maxRecDepth 10000

/-- The pieces between spaces; cur: what the first one has already. -/
def splitL : List UInt8 → List UInt8 → List (List UInt8)
  | [], cur => [cur]
  | c :: r, cur => if c = 32 then cur :: splitL r [] else splitL r (cur ++ [c])
def fieldsL (s : List UInt8) : List (List UInt8) := splitL s []
theorem splitL_no (w : List UInt8) (h : (32 : UInt8) ∉ w) : ∀ cur, splitL w cur = [cur ++ w] := by
  induction w with
  | nil => intro cur; simp [splitL]
  | cons c w ih =>
    intro cur
    simp only [List.mem_cons, not_or] at h
    rw [splitL, if_neg (fun e => h.1 e.symm), ih h.2]; simp
theorem splitL_at (w r : List UInt8) (h : (32 : UInt8) ∉ w) : ∀ cur, splitL (w ++ 32 :: r) cur = (cur ++ w) :: splitL r [] := by
  induction w with
  | nil => intro cur; simp [splitL]
  | cons c w ih =>
    intro cur
    simp only [List.mem_cons, not_or] at h
    rw [List.cons_append, splitL, if_neg (fun e => h.1 e.symm), ih h.2]; simp
theorem fields_nums (w : List UInt8) (h : (32 : UInt8) ∉ w) : ∀ (vs : List Int), fieldsL (w ++ numsF vs) = w :: vs.map Lib.itoa := by
  intro vs
  induction vs generalizing w with
  | nil => simp [numsF, fieldsL, splitL_no w h]
  | cons v vs ih =>
    have e : numsF (v :: vs) = 32 :: (Lib.itoa v ++ numsF vs) := rfl
    rw [e, fieldsL, splitL_at _ _ h, List.nil_append]
    have := ih (Lib.itoa v) (itoa_no _ _ (by decide))
    rw [fieldsL] at this
    rw [this]; rfl
theorem fields_one (y : Act) : fieldsL (oneT y) = Lib.itoa y.time :: Lib.itoa y.task :: (kindAt y.kind).1 :: ([y.a, y.b, y.n].take (kindAt y.kind).2).map Lib.itoa := by
  have e : oneT y = Lib.itoa y.time ++ 32 :: (Lib.itoa y.task ++ 32 :: ((kindAt y.kind).1 ++ numsF ([y.a, y.b, y.n].take (kindAt y.kind).2))) := by
    rw [oneT, headT, numsT_F]; simp
  rw [e, fieldsL, splitL_at _ _ (itoa_no _ _ (by decide)), splitL_at _ _ (itoa_no _ _ (by decide))]
  have := fields_nums (kindAt y.kind).1 (word_no _ _ (by decide)) ([y.a, y.b, y.n].take (kindAt y.kind).2)
  rw [fieldsL] at this
  rw [this]; rfl
theorem splitL_len : ∀ (s cur : List UInt8), (splitL s cur).length ≤ s.length + 1
  | [], cur => by simp [splitL]
  | c :: r, cur => by
    rw [splitL]; split
    · have := splitL_len r []; simp; omega
    · have := splitL_len r (cur ++ [c]); simp; omega
theorem splitL_el : ∀ (s cur : List UInt8), ∀ w ∈ splitL s cur, w.length ≤ s.length + cur.length
  | [], cur => by simp [splitL]
  | c :: r, cur => by
    rw [splitL]; split
    · intro w hw
      rcases List.mem_cons.1 hw with rfl | hw
      · simp
      · have := splitL_el r [] w hw; simp at this ⊢; omega
    · intro w hw
      have := splitL_el r (cur ++ [c]) w hw; simp at this ⊢; omega

theorem toNat_ne {c d : UInt8} (h : c ≠ d) : ¬ (c.toNat : Int) = (d.toNat : Int) := fun e => h (UInt8.toNat_inj.1 (by omega))
/-- A slice of strings. -/
def dStrs (l : List (List UInt8)) : DVal := .vslice (l.map .str) l.length

theorem fields_spec (G : Nat → DVal) (H : DHeap) (s : List UInt8) (hs : s.length ≤ 1000000000) : DCalls Tryd.prog G 68 [.str s] H (DRet (dStrs (fieldsL s)) H) := by
  refine dcalls_intro Tryd.func68 Tryd.call68 rfl (by kernel_rfl) ?_
  simp (disch := omega) only [go_sem, Nat.reduceEqDiff, Nat.reduceAdd, Nat.reduceMul, Nat.reduceSub, Nat.reduceLeDiff, ↓reduceIte, reduceCtorEq, Int.reduceAdd, Int.reduceSub, Int.reduceMul, Int.reduceNeg, Int.reduceToNat, List.reduceReplicate, String.reduceEq]
  obtain ⟨I, hI⟩ : ∃ I : Nat × Nat × List (List UInt8) → (Nat → DVal) → DHeap → Prop, ∀ ix env heap, I ix env heap ↔ (env 0 = .str s ∧ env 4 = dI ix.1 ∧ env 5 = dI ix.2.1 ∧ ix.1 ≤ ix.2.1 ∧ ix.2.1 ≤ s.length ∧ ix.2.2.length ≤ ix.1 ∧ ix.2.2 ++ splitL (s.drop ix.2.1) ((s.drop ix.1).take (ix.2.1 - ix.1)) = fieldsL s ∧ OwnJ H 9 1 ix.2.2.length (ix.2.2.map .str) (env 3) heap) := ⟨_, fun _ _ _ => Iff.rfl⟩
  refine DLoop.run I (fun ix => s.length - ix.2.1) (0, 0, []) ((hI _ _ _).2 ?_) ?_
  · simp (disch := omega) only [go_sem, Nat.reduceEqDiff, Nat.reduceAdd, Nat.reduceMul, Nat.reduceSub, Nat.reduceLeDiff, ↓reduceIte, reduceCtorEq, Int.reduceAdd, Int.reduceSub, Int.reduceMul, Int.reduceNeg, Int.reduceToNat, List.reduceReplicate, String.reduceEq]
    (repeat' apply And.intro) <;> (try first | rfl | assumption | omega)
    exact OwnJ.nil _ _ (Sub.refl _)
  · rintro ⟨fr, i, acc⟩ env heap hi
    obtain ⟨h0, h4, h5, hfi, his, hal, hsp, hv⟩ := (hI _ _ _).1 hi
    dsimp only at h4 h5 hfi his hal hsp hv
    by_cases hlt : i < s.length
    · have hget : s[i]? = some s[i] := List.getElem?_eq_getElem hlt
      have hdr : s.drop i = s[i] :: s.drop (i + 1) := List.drop_eq_getElem_cons hlt
      by_cases c : s[i] = 32
      · have c' : (s[i].toNat : Int) = 32 := by rw [c]; rfl
        have hf : fr + (i - fr) ≤ s.length := by omega
        simp (disch := omega) only [go_sem, Nat.reduceEqDiff, Nat.reduceAdd, Nat.reduceMul, Nat.reduceSub, Nat.reduceLeDiff, ↓reduceIte, reduceCtorEq, Int.reduceAdd, Int.reduceSub, Int.reduceMul, Int.reduceNeg, Int.reduceToNat, List.reduceReplicate, String.reduceEq, h0, h4, h5, hget, hlt, c']
        intro r hr; dsimp only at hr
        simp (disch := omega) only [go_sem, Nat.reduceEqDiff, Nat.reduceAdd, Nat.reduceMul, Nat.reduceSub, Nat.reduceLeDiff, ↓reduceIte, reduceCtorEq, Int.reduceAdd, Int.reduceSub, Int.reduceMul, Int.reduceNeg, Int.reduceToNat, List.reduceReplicate, String.reduceEq, h0, h4, h5]
        refine OwnJ.append (m := 1) (bytes := 16) (OwnJ.new hv hr _) rfl (by omega) fun v2 H2 hv2 => ?_
        simp (disch := omega) only [go_sem, Nat.reduceEqDiff, Nat.reduceAdd, Nat.reduceMul, Nat.reduceSub, Nat.reduceLeDiff, ↓reduceIte, reduceCtorEq, Int.reduceAdd, Int.reduceSub, Int.reduceMul, Int.reduceNeg, Int.reduceToNat, List.reduceReplicate, String.reduceEq, h0, h4, h5]
        refine ⟨(i + 1, i + 1, acc ++ [(s.drop fr).take (i - fr)]), _, GhostS.refl _, (hI _ _ _).2 ?_, by dsimp only; omega⟩
        simp (disch := omega) only [go_sem, Nat.reduceEqDiff, Nat.reduceAdd, Nat.reduceMul, Nat.reduceSub, Nat.reduceLeDiff, ↓reduceIte, reduceCtorEq, Int.reduceAdd, Int.reduceSub, Int.reduceMul, Int.reduceNeg, Int.reduceToNat, List.reduceReplicate, String.reduceEq, h0, h4, h5]
        (repeat' apply And.intro) <;> (try first | rfl | assumption | omega)
        · simp; omega
        · rw [← hsp, hdr, c, splitL, if_pos rfl]; simp
        · simpa using hv2
      · have c' : ¬ (s[i].toNat : Int) = 32 := toNat_ne (d := 32) c
        simp (disch := omega) only [go_sem, Nat.reduceEqDiff, Nat.reduceAdd, Nat.reduceMul, Nat.reduceSub, Nat.reduceLeDiff, ↓reduceIte, reduceCtorEq, Int.reduceAdd, Int.reduceSub, Int.reduceMul, Int.reduceNeg, Int.reduceToNat, List.reduceReplicate, String.reduceEq, h0, h4, h5, hget, hlt, c']
        refine ⟨(fr, i + 1, acc), _, GhostS.refl _, (hI _ _ _).2 ?_, by dsimp only; omega⟩
        simp (disch := omega) only [go_sem, Nat.reduceEqDiff, Nat.reduceAdd, Nat.reduceMul, Nat.reduceSub, Nat.reduceLeDiff, ↓reduceIte, reduceCtorEq, Int.reduceAdd, Int.reduceSub, Int.reduceMul, Int.reduceNeg, Int.reduceToNat, List.reduceReplicate, String.reduceEq, h0, h4, h5]
        (repeat' apply And.intro) <;> (try first | rfl | assumption | omega)
        rw [← hsp, hdr, splitL, if_neg c, show i + 1 - fr = (i - fr) + 1 by omega, List.take_succ_eq_append_getElem (by simp; omega)]
        have : (s.drop fr)[i - fr]'(by simp; omega) = s[i] := by
          rw [List.getElem_drop]; congr 1; omega
        rw [this]
    · simp (disch := omega) only [go_sem, Nat.reduceEqDiff, Nat.reduceAdd, Nat.reduceMul, Nat.reduceSub, Nat.reduceLeDiff, ↓reduceIte, reduceCtorEq, Int.reduceAdd, Int.reduceSub, Int.reduceMul, Int.reduceNeg, Int.reduceToNat, List.reduceReplicate, String.reduceEq, h0, h4, h5, hlt]
      have hi : i = s.length := by omega
      subst hi
      intro r hr; dsimp only at hr
      simp (disch := omega) only [go_sem, Nat.reduceEqDiff, Nat.reduceAdd, Nat.reduceMul, Nat.reduceSub, Nat.reduceLeDiff, ↓reduceIte, reduceCtorEq, Int.reduceAdd, Int.reduceSub, Int.reduceMul, Int.reduceNeg, Int.reduceToNat, List.reduceReplicate, String.reduceEq, h0, h4, h5]
      refine OwnJ.append (m := 1) (bytes := 16) (OwnJ.new hv hr _) rfl (by omega) fun v2 H2 hv2 => ?_
      simp (disch := omega) only [go_sem, Nat.reduceEqDiff, Nat.reduceAdd, Nat.reduceMul, Nat.reduceSub, Nat.reduceLeDiff, ↓reduceIte, reduceCtorEq, Int.reduceAdd, Int.reduceSub, Int.reduceMul, Int.reduceNeg, Int.reduceToNat, List.reduceReplicate, String.reduceEq, h0, h4, h5]
      refine OwnJ.fin hv2 ⟨?_, rfl⟩
      rw [← hsp, List.drop_length, splitL, dStrs]
      simp
end Go.Dl

-- Chapter 35: the reference's value of a text.
namespace Go.Dl
open Go Go.Proofs
set_option maxRecDepth 10000




def stepV (m : Bool) (n : Int) (c : UInt8) : Int :=
  if m then IntKind.i64.wrap (IntKind.i64.wrap (n * 10) - ((c.toNat : Int) - 48)) else IntKind.i64.wrap (IntKind.i64.wrap (n * 10) + ((c.toNat : Int) - 48))
theorem stepV_w (m : Bool) (n : Int) (c : UInt8) : I64 (stepV m n c) := by
  unfold stepV I64
  split <;> (rw [IntKind.wrap_i64]; omega)
theorem fold_w (m : Bool) (l : List UInt8) : I64 (l.foldl (stepV m) 0) := by
  rcases List.eq_nil_or_concat l with rfl | ⟨l', c, rfl⟩
  · exact ⟨by show (-9223372036854775808 : Int) ≤ 0; omega, by show (0 : Int) ≤ 9223372036854775807; omega⟩
  · rw [List.concat_eq_append, List.foldl_append]; exact stepV_w m _ c
theorem fold_digits (m : Bool) (u : Nat) (hu : u ≤ 9223372036854775808) (hm : m = false → u < 9223372036854775808) : (Lib.decDigits u).foldl (stepV m) 0 = if m then -(u : Int) else u := by
  induction u using Nat.strongRecOn with
  | ind u ih =>
    have d : ∀ d : Nat, d < 10 → ((UInt8.ofNat (48 + d)).toNat : Int) - 48 = d := fun d hd => by rw [UInt8.toNat_ofNat']; omega
    rw [Lib.decDigits]
    split
    · rename_i h
      simp only [List.foldl_cons, List.foldl_nil, stepV, d u h]
      cases m
      · simp only [Bool.false_eq_true, if_false]; rw [IntKind.wrap_i64, IntKind.wrap_i64]; omega
      · simp only [if_true]; rw [IntKind.wrap_i64, IntKind.wrap_i64]; omega
    · rename_i h
      rw [List.foldl_append, ih (u / 10) (by omega) (by omega) (fun hh => by have := hm hh; omega)]
      simp only [List.foldl_cons, List.foldl_nil, stepV, d (u % 10) (by omega)]
      cases m
      · have := hm rfl
        simp only [Bool.false_eq_true, if_false]; rw [IntKind.wrap_i64, IntKind.wrap_i64]; omega
      · simp only [if_true]; rw [IntKind.wrap_i64, IntKind.wrap_i64]; omega
theorem nDigits_le19 (u : Nat) (h : u < 10000000000000000000) : Lib.nDigits u ≤ 19 := by
  have key : ∀ k u : Nat, u < 10 ^ (k + 1) → Lib.nDigits u ≤ k + 1 := by
    intro k
    induction k with
    | zero => intro u hu; rw [Lib.nDigits_small (by omega)]; omega
    | succ k ih =>
      intro u hu
      by_cases h : u < 10
      · rw [Lib.nDigits_small h]; omega
      · rw [Lib.nDigits_big h]
        have := ih (u / 10) (by rw [Nat.pow_succ] at hu; omega)
        omega
  exact key 18 u (by omega)
def minusOf (s : List UInt8) : Bool := match s with | c :: _ => decide (c = 45) | [] => false
def offOf (s : List UInt8) : Nat := if minusOf s then 1 else 0
/-- What the numeral of n is. -/
theorem itoa_val {n : Int} {s : List UInt8} (h : I64 n) (hs : Lib.itoa n = s) : s.length ≤ 20 ∧ (∀ c ∈ s.drop (offOf s), 48 ≤ c.toNat ∧ c.toNat ≤ 57) ∧ (s.drop (offOf s)).foldl (stepV (minusOf s)) 0 = n := by
  obtain ⟨h1, h2⟩ := h
  by_cases c : n < 0
  · obtain ⟨u, rfl⟩ : ∃ u : Nat, n = -(u : Int) := ⟨n.natAbs, by omega⟩
    rw [Lib.itoa_neg u (by omega)] at hs
    subst hs
    have hm : minusOf (45 :: Lib.decDigits u) = true := rfl
    have ho : offOf (45 :: Lib.decDigits u) = 1 := rfl
    rw [hm, ho, List.drop_succ_cons, List.drop_zero]
    refine ⟨?_, decDigits_digits u, ?_⟩
    · rw [List.length_cons, Lib.decDigits_length]; have := nDigits_le19 u (by omega); omega
    · rw [fold_digits true u (by omega) (by simp), if_pos rfl]
  · obtain ⟨u, rfl⟩ : ∃ u : Nat, n = (u : Int) := ⟨n.toNat, by omega⟩
    rw [Lib.itoa_nonneg] at hs
    have hd := decDigits_digits u
    have hm : minusOf s = false := by
      rw [← hs]
      cases e : Lib.decDigits u with
      | nil => rfl
      | cons c r =>
        have := hd c (by rw [e]; simp)
        simp only [minusOf, decide_eq_false_iff_not]
        intro e2; subst e2; revert this; decide
    have ho : offOf s = 0 := by rw [offOf, hm]; rfl
    rw [hm, ho, List.drop_zero, ← hs]
    refine ⟨?_, hd, ?_⟩
    · rw [Lib.decDigits_length]; have := nDigits_le19 u (by omega); omega
    · rw [fold_digits false u (by omega) (by intro; omega)]; rfl

def ValPost (s : List UInt8) (H : DHeap) (e : DEnd) (H' : DHeap) : Prop :=
  (∃ v ok, e = .ret (.tuple [dI v, .bool ok]) ∧ I64 v ∧ (ok = true → Lib.itoa v = s) ∧ (∀ n, I64 n → Lib.itoa n = s → v = n ∧ ok = true)) ∧ H' = H

theorem value_spec (G : Nat → DVal) (H : DHeap) (s : List UInt8) (hs : s.length ≤ 1000000000) : DCalls Tryd.prog G 69 [.str s] H (ValPost s H) := by
  have z64 : I64 0 := ⟨by omega, by omega⟩
  refine dcalls_intro Tryd.func69 Tryd.call69 rfl (by kernel_rfl) ?_
  by_cases c1 : 20 < s.length
  · simp (disch := omega) only [go_sem, Nat.reduceEqDiff, Nat.reduceAdd, Nat.reduceMul, Nat.reduceSub, Nat.reduceLeDiff, ↓reduceIte, reduceCtorEq, Int.reduceAdd, Int.reduceSub, Int.reduceMul, Int.reduceNeg, Int.reduceToNat, List.reduceReplicate, String.reduceEq]
    exact DFin.refl ⟨⟨0, false, rfl, z64, by simp, fun n h1 h2 => by have := (itoa_val h1 h2).1; omega⟩, rfl⟩
  obtain ⟨m, hm⟩ : ∃ m, minusOf s = m := ⟨_, rfl⟩
  obtain ⟨I, hI⟩ : ∃ I : Nat → (Nat → DVal) → DHeap → Prop, ∀ i env heap, I i env heap ↔ (heap = H ∧ env 0 = .str s ∧ env 5 = .bool m ∧ env 6 = dI i ∧ i ≤ s.length ∧ env 4 = dI (((s.take i).drop (offOf s)).foldl (stepV m) 0) ∧ ∀ c ∈ (s.take i).drop (offOf s), 48 ≤ c.toNat ∧ c.toNat ≤ 57) := ⟨_, fun _ _ _ => Iff.rfl⟩
  have start : ∀ env, env 0 = .str s → env 5 = .bool m → env 6 = dI 0 → env 4 = dI 0 → I 0 env H := fun env e0 e5 e6 e4 =>
    (hI _ _ _).2 ⟨rfl, e0, e5, e6, Nat.zero_le _, by rw [e4]; simp, by simp⟩
  have hoff : offOf s = if m then 1 else 0 := by rw [offOf, hm]
  have hc : s = [] ∧ m = false ∨ (∃ r, s = 45 :: r ∧ m = true) ∨ ∃ c r, s = c :: r ∧ c ≠ 45 ∧ m = false := by
    cases s with
    | nil => exact .inl ⟨rfl, hm.symm⟩
    | cons c r =>
      by_cases e : c = 45
      · subst e; exact .inr (.inl ⟨r, rfl, hm.symm⟩)
      · exact .inr (.inr ⟨c, r, rfl, e, by rw [← hm]; exact decide_eq_false e⟩)
  have hfin : ∀ i env heap, I i env heap → i < s.length → ¬ (i = 0 ∧ m = true) → (s.take (i + 1)).drop (offOf s) = (s.take i).drop (offOf s) ++ [s.getD i 0] := fun i env heap hi hlt hne => by
    rw [List.take_succ_eq_append_getElem hlt, List.drop_append_of_le_length, List.getD, List.getElem?_eq_getElem hlt]
    · rfl
    · rw [hoff, List.length_take]; cases m
      · simp
      · have : i ≠ 0 := fun e => hne ⟨e, rfl⟩
        simp; omega
  have hl0 : s = [] ∧ m = false ∨ 0 < s.length ∧ s[0]? = some 45 ∧ m = true ∨ ∃ c, 0 < s.length ∧ s[0]? = some c ∧ c ≠ 45 ∧ m = false := by
    rcases hc with h | ⟨r, e, em⟩ | ⟨c, r, e, ec, em⟩
    · exact .inl h
    · exact .inr (.inl ⟨by rw [e]; simp, by rw [e]; rfl, em⟩)
    · exact .inr (.inr ⟨c, by rw [e]; simp, by rw [e]; rfl, ec, em⟩)
  rcases hl0 with ⟨e, em⟩ | ⟨hl, hg0, em⟩ | ⟨c, hl, hg0, ec, em⟩
  · have hl : s.length = 0 := by rw [e]; rfl
    have hl' : (s.length : Int) = 0 := by omega
    simp (disch := omega) only [go_sem, Nat.reduceEqDiff, Nat.reduceAdd, Nat.reduceMul, Nat.reduceSub, Nat.reduceLeDiff, ↓reduceIte, reduceCtorEq, Int.reduceAdd, Int.reduceSub, Int.reduceMul, Int.reduceNeg, Int.reduceToNat, List.reduceReplicate, String.reduceEq, hl']
    refine DLoop.run I (fun i => s.length - i) 0 (start _ (by simp (disch := omega) only [go_sem, Nat.reduceEqDiff, Nat.reduceAdd, Nat.reduceMul, Nat.reduceSub, Nat.reduceLeDiff, ↓reduceIte, reduceCtorEq, Int.reduceAdd, Int.reduceSub, Int.reduceMul, Int.reduceNeg, Int.reduceToNat, List.reduceReplicate, String.reduceEq]) (by simp (disch := omega) only [go_sem, Nat.reduceEqDiff, Nat.reduceAdd, Nat.reduceMul, Nat.reduceSub, Nat.reduceLeDiff, ↓reduceIte, reduceCtorEq, Int.reduceAdd, Int.reduceSub, Int.reduceMul, Int.reduceNeg, Int.reduceToNat, List.reduceReplicate, String.reduceEq, em]) (by simp (disch := omega) only [go_sem, Nat.reduceEqDiff, Nat.reduceAdd, Nat.reduceMul, Nat.reduceSub, Nat.reduceLeDiff, ↓reduceIte, reduceCtorEq, Int.reduceAdd, Int.reduceSub, Int.reduceMul, Int.reduceNeg, Int.reduceToNat, List.reduceReplicate, String.reduceEq]) (by simp (disch := omega) only [go_sem, Nat.reduceEqDiff, Nat.reduceAdd, Nat.reduceMul, Nat.reduceSub, Nat.reduceLeDiff, ↓reduceIte, reduceCtorEq, Int.reduceAdd, Int.reduceSub, Int.reduceMul, Int.reduceNeg, Int.reduceToNat, List.reduceReplicate, String.reduceEq])) ?_
    intro i env heap hi
    obtain ⟨rfl, h0, h5, h6, his, h4, hdg⟩ := (hI _ _ _).1 hi
    by_cases hlt : i < s.length
    · skip
      exact absurd hlt (by omega)
    · skip
      have hmi : List.drop (offOf s) s = s.drop (offOf s) := rfl
      have hie : i = s.length := by omega
      subst hie
      rw [List.take_length] at h4 hdg
      have hw := fold_w m (s.drop (offOf s))
      simp (disch := omega) only [go_sem, Nat.reduceEqDiff, Nat.reduceAdd, Nat.reduceMul, Nat.reduceSub, Nat.reduceLeDiff, ↓reduceIte, reduceCtorEq, Int.reduceAdd, Int.reduceSub, Int.reduceMul, Int.reduceNeg, Int.reduceToNat, List.reduceReplicate, String.reduceEq, h0, h4, h5, h6, hlt]
      refine (number_spec G _ _ hw.1 hw.2).mono ?_
      rintro _ heap ⟨rfl, rfl⟩
      simp (disch := omega) only [go_sem, Nat.reduceEqDiff, Nat.reduceAdd, Nat.reduceMul, Nat.reduceSub, Nat.reduceLeDiff, ↓reduceIte, reduceCtorEq, Int.reduceAdd, Int.reduceSub, Int.reduceMul, Int.reduceNeg, Int.reduceToNat, List.reduceReplicate, String.reduceEq, h0, h4, h5, h6, hlt]
      refine DFin.refl ⟨⟨_, _, rfl, hw, fun h => of_decide_eq_true h, fun n h1 h2 => ?_⟩, rfl⟩
      have h3 := (itoa_val h1 h2).2.2
      rw [hm] at h3
      rw [h3]
      exact ⟨rfl, decide_eq_true h2⟩
  · have c' : (UInt8.toNat 45 : Int) = 45 := rfl
    simp (disch := omega) only [go_sem, Nat.reduceEqDiff, Nat.reduceAdd, Nat.reduceMul, Nat.reduceSub, Nat.reduceLeDiff, ↓reduceIte, reduceCtorEq, Int.reduceAdd, Int.reduceSub, Int.reduceMul, Int.reduceNeg, Int.reduceToNat, List.reduceReplicate, String.reduceEq, hg0, c']
    refine DLoop.run I (fun i => s.length - i) 0 (start _ (by simp (disch := omega) only [go_sem, Nat.reduceEqDiff, Nat.reduceAdd, Nat.reduceMul, Nat.reduceSub, Nat.reduceLeDiff, ↓reduceIte, reduceCtorEq, Int.reduceAdd, Int.reduceSub, Int.reduceMul, Int.reduceNeg, Int.reduceToNat, List.reduceReplicate, String.reduceEq]) (by simp (disch := omega) only [go_sem, Nat.reduceEqDiff, Nat.reduceAdd, Nat.reduceMul, Nat.reduceSub, Nat.reduceLeDiff, ↓reduceIte, reduceCtorEq, Int.reduceAdd, Int.reduceSub, Int.reduceMul, Int.reduceNeg, Int.reduceToNat, List.reduceReplicate, String.reduceEq, em]) (by simp (disch := omega) only [go_sem, Nat.reduceEqDiff, Nat.reduceAdd, Nat.reduceMul, Nat.reduceSub, Nat.reduceLeDiff, ↓reduceIte, reduceCtorEq, Int.reduceAdd, Int.reduceSub, Int.reduceMul, Int.reduceNeg, Int.reduceToNat, List.reduceReplicate, String.reduceEq]) (by simp (disch := omega) only [go_sem, Nat.reduceEqDiff, Nat.reduceAdd, Nat.reduceMul, Nat.reduceSub, Nat.reduceLeDiff, ↓reduceIte, reduceCtorEq, Int.reduceAdd, Int.reduceSub, Int.reduceMul, Int.reduceNeg, Int.reduceToNat, List.reduceReplicate, String.reduceEq])) ?_
    intro i env heap hi
    obtain ⟨rfl, h0, h5, h6, his, h4, hdg⟩ := (hI _ _ _).1 hi
    by_cases hlt : i < s.length
    · skip
      have hget : s[i]? = some s[i] := List.getElem?_eq_getElem hlt
      by_cases hsk : i = 0 ∧ m = true
      · skip
        obtain ⟨rfl, rfl⟩ := hsk
        have h6' : env 6 = dI 0 := h6
        simp (disch := omega) only [go_sem, Nat.reduceEqDiff, Nat.reduceAdd, Nat.reduceMul, Nat.reduceSub, Nat.reduceLeDiff, ↓reduceIte, reduceCtorEq, Int.reduceAdd, Int.reduceSub, Int.reduceMul, Int.reduceNeg, Int.reduceToNat, List.reduceReplicate, String.reduceEq, h0, h4, h5, h6', hget, hlt]
        refine ⟨1, _, GhostS.refl _, (hI _ _ _).2 ?_, by omega⟩
        simp (disch := omega) only [go_sem, Nat.reduceEqDiff, Nat.reduceAdd, Nat.reduceMul, Nat.reduceSub, Nat.reduceLeDiff, ↓reduceIte, reduceCtorEq, Int.reduceAdd, Int.reduceSub, Int.reduceMul, Int.reduceNeg, Int.reduceToNat, List.reduceReplicate, String.reduceEq, h0, h4, h5, h6']
        have e1 : (s.take 1).drop (offOf s) = [] := by rw [hoff, if_pos rfl]; exact List.drop_of_length_le (by rw [List.length_take]; omega)
        rw [e1]
        (repeat' apply And.intro) <;> (try first | rfl | assumption | omega)
        all_goals simp
      · have hnx := hfin i env heap hi hlt hsk
        have hgd : s.getD i 0 = s[i] := by rw [List.getD, hget]; rfl
        rw [hgd] at hnx
        rw [em] at h5
        have no : ¬ (48 ≤ s[i].toNat ∧ s[i].toNat ≤ 57) → ∀ n, I64 n → Lib.itoa n = s → (0 : Int) = n ∧ false = true := fun hd n h1 h2 => by
          have := (itoa_val h1 h2).2.1 s[i] (by
            rw [List.mem_drop_iff_getElem]
            have ho : offOf s ≤ i := by
              rw [hoff]; cases hmm : m
              · simp
              · have : i ≠ 0 := fun e => hsk ⟨e, hmm⟩
                simp; omega
            exact ⟨i - offOf s, by omega, by congr 1; omega⟩)
          exact absurd this hd
        have hfin2 : ¬ (48 ≤ s[i].toNat ∧ s[i].toNat ≤ 57) → DFin (ValPost s heap) (.tuple [dI 0, .bool false]) heap := fun hd => DFin.refl ⟨⟨0, false, rfl, z64, by simp, no hd⟩, rfl⟩
        have hi0 : ¬ i = 0 := fun e => hsk ⟨e, em⟩
        by_cases hb1 : s[i].toNat < 48
        · have hb1' : (s[i].toNat : Int) < 48 := by omega
          simp (disch := omega) only [go_sem, Nat.reduceEqDiff, Nat.reduceAdd, Nat.reduceMul, Nat.reduceSub, Nat.reduceLeDiff, ↓reduceIte, reduceCtorEq, Int.reduceAdd, Int.reduceSub, Int.reduceMul, Int.reduceNeg, Int.reduceToNat, List.reduceReplicate, String.reduceEq, h0, h4, h5, h6, hget, hlt]
          exact hfin2 (by omega)
        by_cases hb2 : 57 < s[i].toNat
        · have hb1' : ¬ (s[i].toNat : Int) < 48 := by omega
          have hb2' : 57 < (s[i].toNat : Int) := by omega
          simp (disch := omega) only [go_sem, Nat.reduceEqDiff, Nat.reduceAdd, Nat.reduceMul, Nat.reduceSub, Nat.reduceLeDiff, ↓reduceIte, reduceCtorEq, Int.reduceAdd, Int.reduceSub, Int.reduceMul, Int.reduceNeg, Int.reduceToNat, List.reduceReplicate, String.reduceEq, h0, h4, h5, h6, hget, hlt]
          exact hfin2 (by omega)
        have hb1' : ¬ (s[i].toNat : Int) < 48 := by omega
        have hb2' : ¬ 57 < (s[i].toNat : Int) := by omega
        have hw1 : IntKind.u8.wrap ((s[i].toNat : Int) - 48) = (s[i].toNat : Int) - 48 := by rw [IntKind.wrap_u8]; omega
        simp (disch := omega) only [go_sem, Nat.reduceEqDiff, Nat.reduceAdd, Nat.reduceMul, Nat.reduceSub, Nat.reduceLeDiff, ↓reduceIte, reduceCtorEq, Int.reduceAdd, Int.reduceSub, Int.reduceMul, Int.reduceNeg, Int.reduceToNat, List.reduceReplicate, String.reduceEq, h0, h4, h5, h6, hget, hlt, hw1]
        refine ⟨i + 1, _, GhostS.refl _, (hI _ _ _).2 ?_, by omega⟩
        simp (disch := omega) only [go_sem, Nat.reduceEqDiff, Nat.reduceAdd, Nat.reduceMul, Nat.reduceSub, Nat.reduceLeDiff, ↓reduceIte, reduceCtorEq, Int.reduceAdd, Int.reduceSub, Int.reduceMul, Int.reduceNeg, Int.reduceToNat, List.reduceReplicate, String.reduceEq, h0, h4, h5, h6]
        rw [hnx]
        (repeat' apply And.intro) <;> (try first | rfl | assumption | omega)
        · exact em.symm ▸ rfl
        · rw [List.foldl_append]; simp only [List.foldl_cons, List.foldl_nil, stepV, em]; rfl
        · intro c hc
          rcases List.mem_append.1 hc with hc | hc
          · exact hdg c hc
          · rw [List.mem_singleton] at hc; subst hc; omega
    · skip
      have hmi : List.drop (offOf s) s = s.drop (offOf s) := rfl
      have hie : i = s.length := by omega
      subst hie
      rw [List.take_length] at h4 hdg
      have hw := fold_w m (s.drop (offOf s))
      simp (disch := omega) only [go_sem, Nat.reduceEqDiff, Nat.reduceAdd, Nat.reduceMul, Nat.reduceSub, Nat.reduceLeDiff, ↓reduceIte, reduceCtorEq, Int.reduceAdd, Int.reduceSub, Int.reduceMul, Int.reduceNeg, Int.reduceToNat, List.reduceReplicate, String.reduceEq, h0, h4, h5, h6, hlt]
      refine (number_spec G _ _ hw.1 hw.2).mono ?_
      rintro _ heap ⟨rfl, rfl⟩
      simp (disch := omega) only [go_sem, Nat.reduceEqDiff, Nat.reduceAdd, Nat.reduceMul, Nat.reduceSub, Nat.reduceLeDiff, ↓reduceIte, reduceCtorEq, Int.reduceAdd, Int.reduceSub, Int.reduceMul, Int.reduceNeg, Int.reduceToNat, List.reduceReplicate, String.reduceEq, h0, h4, h5, h6, hlt]
      refine DFin.refl ⟨⟨_, _, rfl, hw, fun h => of_decide_eq_true h, fun n h1 h2 => ?_⟩, rfl⟩
      have h3 := (itoa_val h1 h2).2.2
      rw [hm] at h3
      rw [h3]
      exact ⟨rfl, decide_eq_true h2⟩
  · have c' : ¬ (c.toNat : Int) = 45 := toNat_ne (d := 45) ec
    simp (disch := omega) only [go_sem, Nat.reduceEqDiff, Nat.reduceAdd, Nat.reduceMul, Nat.reduceSub, Nat.reduceLeDiff, ↓reduceIte, reduceCtorEq, Int.reduceAdd, Int.reduceSub, Int.reduceMul, Int.reduceNeg, Int.reduceToNat, List.reduceReplicate, String.reduceEq, hg0, c']
    refine DLoop.run I (fun i => s.length - i) 0 (start _ (by simp (disch := omega) only [go_sem, Nat.reduceEqDiff, Nat.reduceAdd, Nat.reduceMul, Nat.reduceSub, Nat.reduceLeDiff, ↓reduceIte, reduceCtorEq, Int.reduceAdd, Int.reduceSub, Int.reduceMul, Int.reduceNeg, Int.reduceToNat, List.reduceReplicate, String.reduceEq]) (by simp (disch := omega) only [go_sem, Nat.reduceEqDiff, Nat.reduceAdd, Nat.reduceMul, Nat.reduceSub, Nat.reduceLeDiff, ↓reduceIte, reduceCtorEq, Int.reduceAdd, Int.reduceSub, Int.reduceMul, Int.reduceNeg, Int.reduceToNat, List.reduceReplicate, String.reduceEq, em]) (by simp (disch := omega) only [go_sem, Nat.reduceEqDiff, Nat.reduceAdd, Nat.reduceMul, Nat.reduceSub, Nat.reduceLeDiff, ↓reduceIte, reduceCtorEq, Int.reduceAdd, Int.reduceSub, Int.reduceMul, Int.reduceNeg, Int.reduceToNat, List.reduceReplicate, String.reduceEq]) (by simp (disch := omega) only [go_sem, Nat.reduceEqDiff, Nat.reduceAdd, Nat.reduceMul, Nat.reduceSub, Nat.reduceLeDiff, ↓reduceIte, reduceCtorEq, Int.reduceAdd, Int.reduceSub, Int.reduceMul, Int.reduceNeg, Int.reduceToNat, List.reduceReplicate, String.reduceEq])) ?_
    intro i env heap hi
    obtain ⟨rfl, h0, h5, h6, his, h4, hdg⟩ := (hI _ _ _).1 hi
    by_cases hlt : i < s.length
    · skip
      have hget : s[i]? = some s[i] := List.getElem?_eq_getElem hlt
      by_cases hsk : i = 0 ∧ m = true
      · skip
        exact absurd (em.symm.trans hsk.2) (by decide)
      · have hnx := hfin i env heap hi hlt hsk
        have hgd : s.getD i 0 = s[i] := by rw [List.getD, hget]; rfl
        rw [hgd] at hnx
        rw [em] at h5
        have no : ¬ (48 ≤ s[i].toNat ∧ s[i].toNat ≤ 57) → ∀ n, I64 n → Lib.itoa n = s → (0 : Int) = n ∧ false = true := fun hd n h1 h2 => by
          have := (itoa_val h1 h2).2.1 s[i] (by
            rw [List.mem_drop_iff_getElem]
            have ho : offOf s ≤ i := by
              rw [hoff]; cases hmm : m
              · simp
              · have : i ≠ 0 := fun e => hsk ⟨e, hmm⟩
                simp; omega
            exact ⟨i - offOf s, by omega, by congr 1; omega⟩)
          exact absurd this hd
        have hfin2 : ¬ (48 ≤ s[i].toNat ∧ s[i].toNat ≤ 57) → DFin (ValPost s heap) (.tuple [dI 0, .bool false]) heap := fun hd => DFin.refl ⟨⟨0, false, rfl, z64, by simp, no hd⟩, rfl⟩
        by_cases hi0 : i = 0
        · subst hi0
          have h6' : env 6 = dI 0 := h6
          rw [Nat.zero_add] at hnx
          by_cases hb1 : s[0].toNat < 48
          · have hb1' : (s[0].toNat : Int) < 48 := by omega
            simp (disch := omega) only [go_sem, Nat.reduceEqDiff, Nat.reduceAdd, Nat.reduceMul, Nat.reduceSub, Nat.reduceLeDiff, ↓reduceIte, reduceCtorEq, Int.reduceAdd, Int.reduceSub, Int.reduceMul, Int.reduceNeg, Int.reduceToNat, List.reduceReplicate, String.reduceEq, h0, h4, h5, h6', hget, hlt]
            exact hfin2 (by omega)
          by_cases hb2 : 57 < s[0].toNat
          · have hb1' : ¬ (s[0].toNat : Int) < 48 := by omega
            have hb2' : 57 < (s[0].toNat : Int) := by omega
            simp (disch := omega) only [go_sem, Nat.reduceEqDiff, Nat.reduceAdd, Nat.reduceMul, Nat.reduceSub, Nat.reduceLeDiff, ↓reduceIte, reduceCtorEq, Int.reduceAdd, Int.reduceSub, Int.reduceMul, Int.reduceNeg, Int.reduceToNat, List.reduceReplicate, String.reduceEq, h0, h4, h5, h6', hget, hlt]
            exact hfin2 (by omega)
          have hb1' : ¬ (s[0].toNat : Int) < 48 := by omega
          have hb2' : ¬ 57 < (s[0].toNat : Int) := by omega
          have hw1 : IntKind.u8.wrap ((s[0].toNat : Int) - 48) = (s[0].toNat : Int) - 48 := by rw [IntKind.wrap_u8]; omega
          simp (disch := omega) only [go_sem, Nat.reduceEqDiff, Nat.reduceAdd, Nat.reduceMul, Nat.reduceSub, Nat.reduceLeDiff, ↓reduceIte, reduceCtorEq, Int.reduceAdd, Int.reduceSub, Int.reduceMul, Int.reduceNeg, Int.reduceToNat, List.reduceReplicate, String.reduceEq, h0, h4, h5, h6', hget, hlt, hw1]
          refine ⟨1, _, GhostS.refl _, (hI _ _ _).2 ?_, by omega⟩
          simp (disch := omega) only [go_sem, Nat.reduceEqDiff, Nat.reduceAdd, Nat.reduceMul, Nat.reduceSub, Nat.reduceLeDiff, ↓reduceIte, reduceCtorEq, Int.reduceAdd, Int.reduceSub, Int.reduceMul, Int.reduceNeg, Int.reduceToNat, List.reduceReplicate, String.reduceEq, h0, h4, h5, h6']
          rw [hnx]
          (repeat' apply And.intro) <;> (try first | rfl | assumption | omega)
          · exact em.symm ▸ rfl
          · rw [List.foldl_append]; simp only [List.foldl_cons, List.foldl_nil, stepV, em]; rfl
          · intro c hc
            rcases List.mem_append.1 hc with hc | hc
            · exact hdg c hc
            · rw [List.mem_singleton] at hc; subst hc; omega
        by_cases hb1 : s[i].toNat < 48
        · have hb1' : (s[i].toNat : Int) < 48 := by omega
          simp (disch := omega) only [go_sem, Nat.reduceEqDiff, Nat.reduceAdd, Nat.reduceMul, Nat.reduceSub, Nat.reduceLeDiff, ↓reduceIte, reduceCtorEq, Int.reduceAdd, Int.reduceSub, Int.reduceMul, Int.reduceNeg, Int.reduceToNat, List.reduceReplicate, String.reduceEq, h0, h4, h5, h6, hget, hlt]
          exact hfin2 (by omega)
        by_cases hb2 : 57 < s[i].toNat
        · have hb1' : ¬ (s[i].toNat : Int) < 48 := by omega
          have hb2' : 57 < (s[i].toNat : Int) := by omega
          simp (disch := omega) only [go_sem, Nat.reduceEqDiff, Nat.reduceAdd, Nat.reduceMul, Nat.reduceSub, Nat.reduceLeDiff, ↓reduceIte, reduceCtorEq, Int.reduceAdd, Int.reduceSub, Int.reduceMul, Int.reduceNeg, Int.reduceToNat, List.reduceReplicate, String.reduceEq, h0, h4, h5, h6, hget, hlt]
          exact hfin2 (by omega)
        have hb1' : ¬ (s[i].toNat : Int) < 48 := by omega
        have hb2' : ¬ 57 < (s[i].toNat : Int) := by omega
        have hw1 : IntKind.u8.wrap ((s[i].toNat : Int) - 48) = (s[i].toNat : Int) - 48 := by rw [IntKind.wrap_u8]; omega
        simp (disch := omega) only [go_sem, Nat.reduceEqDiff, Nat.reduceAdd, Nat.reduceMul, Nat.reduceSub, Nat.reduceLeDiff, ↓reduceIte, reduceCtorEq, Int.reduceAdd, Int.reduceSub, Int.reduceMul, Int.reduceNeg, Int.reduceToNat, List.reduceReplicate, String.reduceEq, h0, h4, h5, h6, hget, hlt, hw1]
        refine ⟨i + 1, _, GhostS.refl _, (hI _ _ _).2 ?_, by omega⟩
        simp (disch := omega) only [go_sem, Nat.reduceEqDiff, Nat.reduceAdd, Nat.reduceMul, Nat.reduceSub, Nat.reduceLeDiff, ↓reduceIte, reduceCtorEq, Int.reduceAdd, Int.reduceSub, Int.reduceMul, Int.reduceNeg, Int.reduceToNat, List.reduceReplicate, String.reduceEq, h0, h4, h5, h6]
        rw [hnx]
        (repeat' apply And.intro) <;> (try first | rfl | assumption | omega)
        · exact em.symm ▸ rfl
        · rw [List.foldl_append]; simp only [List.foldl_cons, List.foldl_nil, stepV, em]; rfl
        · intro c hc
          rcases List.mem_append.1 hc with hc | hc
          · exact hdg c hc
          · rw [List.mem_singleton] at hc; subst hc; omega
    · skip
      have hmi : List.drop (offOf s) s = s.drop (offOf s) := rfl
      have hie : i = s.length := by omega
      subst hie
      rw [List.take_length] at h4 hdg
      have hw := fold_w m (s.drop (offOf s))
      simp (disch := omega) only [go_sem, Nat.reduceEqDiff, Nat.reduceAdd, Nat.reduceMul, Nat.reduceSub, Nat.reduceLeDiff, ↓reduceIte, reduceCtorEq, Int.reduceAdd, Int.reduceSub, Int.reduceMul, Int.reduceNeg, Int.reduceToNat, List.reduceReplicate, String.reduceEq, h0, h4, h5, h6, hlt]
      refine (number_spec G _ _ hw.1 hw.2).mono ?_
      rintro _ heap ⟨rfl, rfl⟩
      simp (disch := omega) only [go_sem, Nat.reduceEqDiff, Nat.reduceAdd, Nat.reduceMul, Nat.reduceSub, Nat.reduceLeDiff, ↓reduceIte, reduceCtorEq, Int.reduceAdd, Int.reduceSub, Int.reduceMul, Int.reduceNeg, Int.reduceToNat, List.reduceReplicate, String.reduceEq, h0, h4, h5, h6, hlt]
      refine DFin.refl ⟨⟨_, _, rfl, hw, fun h => of_decide_eq_true h, fun n h1 h2 => ?_⟩, rfl⟩
      have h3 := (itoa_val h1 h2).2.2
      rw [hm] at h3
      rw [h3]
      exact ⟨rfl, decide_eq_true h2⟩
end Go.Dl

-- Chapter 35: the reference's reading of an act.
namespace Go.Dl
open Go Go.Proofs
set_option maxRecDepth 10000

def cntOf (i : Nat) : Nat := if i ≤ 2 then i else i - 1
def valsOf (y : Act) : List Int := [y.time, y.task, y.a, y.b, y.n]
/-- What is read of y's numbers, the first k of them; the others are 0. -/
def ReadV (y : Act) (k : Nat) (ns : List Int) : Prop := ∀ j, j < 5 → ns[j]? = some (if j < k then (valsOf y).getD j 0 else 0)
theorem readV_all {y : Act} {ns : List Int} (hv : validA y = true) (h5 : ns.length = 5) (h : ReadV y (2 + (kindAt y.kind).2) ns) : ns = valsOf y := by
  have hm := kindAt_le y.kind
  have hz : ∀ j, (kindAt y.kind).2 ≤ j → ∀ v, [y.a, y.b, y.n][j]? = some v → v = 0 := by
    intro j hj v hjv
    simp only [validA, Bool.and_eq_true, Bool.not_eq_true'] at hv
    have h := hv.2
    simp only [nz, List.any_eq_false, decide_eq_true_eq, Decidable.not_not] at h
    refine h v (List.mem_of_getElem? (i := j - (kindAt y.kind).2) ?_)
    rw [List.getElem?_drop, show (kindAt y.kind).2 + (j - (kindAt y.kind).2) = j by omega]; exact hjv
  apply List.ext_getElem?
  intro j
  by_cases hj : j < 5
  · rw [h j hj]
    split
    · have : j < (valsOf y).length := hj
      rw [List.getD, List.getElem?_eq_getElem this]; rfl
    · rename_i hk
      have hj2 : j = 2 ∨ j = 3 ∨ j = 4 := by omega
      rcases hj2 with rfl | rfl | rfl
      · rw [show (valsOf y)[2]? = some y.a from rfl, hz 0 (by omega) y.a rfl]
      · rw [show (valsOf y)[3]? = some y.b from rfl, hz 1 (by omega) y.b rfl]
      · rw [show (valsOf y)[4]? = some y.n from rfl, hz 2 (by omega) y.n rfl]
  · rw [List.getElem?_eq_none (by omega), List.getElem?_eq_none (by show 5 ≤ j; omega)]
theorem text_piece {y : Act} {i : Nat} {w : List UInt8} (hi : i ≠ 2) (h : (fieldsL (oneT y))[i]? = some w) : w = Lib.itoa ((valsOf y).getD (cntOf i) 0) ∧ cntOf i < 2 + (kindAt y.kind).2 := by
  rw [fields_one] at h
  have hm := kindAt_le y.kind
  rcases i with _ | _ | _ | i
  · cases h; exact ⟨rfl, by show 0 < _; omega⟩
  · cases h; exact ⟨rfl, by show 1 < _; omega⟩
  · exact absurd rfl hi
  · simp only [List.getElem?_cons_succ, List.getElem?_map] at h
    have hc : cntOf (i + 1 + 1 + 1) = i + 2 := by rw [cntOf, if_neg (by omega)]; rfl
    rw [hc]
    cases e : ([y.a, y.b, y.n].take (kindAt y.kind).2)[i]? with
    | none => rw [e] at h; cases h
    | some v =>
      rw [e] at h; cases h
      rw [List.getElem?_take] at e
      split at e
      · refine ⟨?_, by omega⟩
        have : (valsOf y)[i + 2]? = some v := by rw [← e]; rfl
        rw [List.getD, this]; rfl
      · cases e
theorem vals_w {y : Act} (h : ActW y) (j : Nat) : I64 ((valsOf y).getD j 0) := by
  obtain ⟨_, _, h1, h2, h3, h4, h5⟩ := h
  rcases j with _ | _ | _ | _ | _ | j
  · exact h1
  · exact h2
  · exact h3
  · exact h4
  · exact h5
  · exact ⟨by show (-9223372036854775808 : Int) ≤ 0; omega, by show (0 : Int) ≤ 9223372036854775807; omega⟩

def TActPost (s : List UInt8) (H : DHeap) (e : DEnd) (H' : DHeap) : Prop :=
  (∃ x ok, e = .ret (.tuple [.agg (dAct x), .bool ok]) ∧ (ok = true → TextOf x s) ∧ ((∃ y, TextOf y s) → ok = true)) ∧ H' = H

theorem ract_spec (G : Nat → DVal) (H : DHeap) (s : List UInt8) (hs : s.length ≤ 1000000) : DCalls Tryd.prog G 44 [.str s] H (TActPost s H) := by
  have hl0 := splitL_len s []
  have hel := splitL_el s []
  rw [show splitL s [] = fieldsL s from rfl] at hl0 hel
  have hno : ∀ h', (∀ y, ¬ TextOf y s) → Sub H h' → DFin (TActPost s H) (.tuple [.agg [dI 0, dI 0, .int .u8 0, dI 0, dI 0, dI 0], .bool false]) h' := fun h' hn hsub =>
    DFin.sub hsub (DFin.refl ⟨⟨⟨0, 0, 0, 0, 0, 0⟩, false, rfl, by simp, fun ⟨y, hy⟩ => (hn y hy).elim⟩, rfl⟩)
  have hy0 : ∀ y, TextOf y s → (fieldsL s).length = 3 + (kindAt y.kind).2 ∧ (fieldsL s)[2]? = some (kindAt y.kind).1 := fun y hy => by
    have hm := kindAt_le y.kind
    rw [← hy.2.2, fields_one]
    refine ⟨?_, rfl⟩
    simp; omega
  refine dcalls_intro Tryd.func44 Tryd.call44 rfl (by kernel_rfl) ?_
  simp (disch := omega) only [go_sem, Nat.reduceEqDiff, Nat.reduceAdd, Nat.reduceMul, Nat.reduceSub, Nat.reduceLeDiff, ↓reduceIte, reduceCtorEq, Int.reduceAdd, Int.reduceSub, Int.reduceMul, Int.reduceNeg, Int.reduceToNat, List.reduceReplicate, String.reduceEq]
  intro ra hra; dsimp only at hra
  simp (disch := omega) only [go_sem, Nat.reduceEqDiff, Nat.reduceAdd, Nat.reduceMul, Nat.reduceSub, Nat.reduceLeDiff, ↓reduceIte, reduceCtorEq, Int.reduceAdd, Int.reduceSub, Int.reduceMul, Int.reduceNeg, Int.reduceToNat, List.reduceReplicate, String.reduceEq]
  refine (fields_spec G _ s (by omega)).mono ?_
  rintro _ H' ⟨rfl, rfl⟩
  by_cases c1 : (fieldsL s).length < 3
  · simp (disch := omega) only [go_sem, Nat.reduceEqDiff, Nat.reduceAdd, Nat.reduceMul, Nat.reduceSub, Nat.reduceLeDiff, ↓reduceIte, reduceCtorEq, Int.reduceAdd, Int.reduceSub, Int.reduceMul, Int.reduceNeg, Int.reduceToNat, List.reduceReplicate, String.reduceEq, dStrs]
    refine hno _ (fun y hy => ?_) (by repeat (first | exact Sub.refl _ | assumption | refine Sub.up ?_ (by assumption) _))
    have := (hy0 y hy).1; omega
  simp (disch := omega) only [go_sem, Nat.reduceEqDiff, Nat.reduceAdd, Nat.reduceMul, Nat.reduceSub, Nat.reduceLeDiff, ↓reduceIte, reduceCtorEq, Int.reduceAdd, Int.reduceSub, Int.reduceMul, Int.reduceNeg, Int.reduceToNat, List.reduceReplicate, String.reduceEq, dStrs]
  intro rn hrn; dsimp only at hrn
  have hrn' : H rn = none := Sub.lo (by repeat (first | exact Sub.refl _ | assumption | refine Sub.up ?_ (by assumption) _)) hrn
  have e1 : ¬ ra = rn := fun e => by subst e; simp [upd] at hrn
  have e2 : ¬ rn = ra := fun e => e1 e.symm
  simp (disch := omega) only [go_sem, Nat.reduceEqDiff, Nat.reduceAdd, Nat.reduceMul, Nat.reduceSub, Nat.reduceLeDiff, ↓reduceIte, reduceCtorEq, Int.reduceAdd, Int.reduceSub, Int.reduceMul, Int.reduceNeg, Int.reduceToNat, List.reduceReplicate, String.reduceEq, e1, e2]
  obtain ⟨I, hI⟩ : ∃ I : Nat → (Nat → DVal) → DHeap → Prop, ∀ i env heap, I i env heap ↔ (env 0 = .str s ∧ env 2 = .optr ra 0 ∧ env 4 = dStrs (fieldsL s) ∧ env 5 = .optr rn 0 ∧ env 6 = dI i ∧ i ≤ (fieldsL s).length ∧ Sub H heap ∧ heap ra = some (.cells [dI 0, dI 0, .int .u8 0, dI 0, dI 0, dI 0] 37) ∧ i ≤ 6 ∧
      ∃ ns, heap rn = some (.cells (ns.map dI) 108) ∧ ns.length = 5 ∧ (∀ n ∈ ns, I64 n) ∧ ∀ y, TextOf y s → ReadV y (cntOf i) ns) := ⟨_, fun _ _ _ => Iff.rfl⟩
  refine DLoop.run I (fun i => (fieldsL s).length - i) 0 ((hI _ _ _).2 ?_) ?_
  · simp (disch := omega) only [go_sem, Nat.reduceEqDiff, Nat.reduceAdd, Nat.reduceMul, Nat.reduceSub, Nat.reduceLeDiff, ↓reduceIte, reduceCtorEq, Int.reduceAdd, Int.reduceSub, Int.reduceMul, Int.reduceNeg, Int.reduceToNat, List.reduceReplicate, String.reduceEq, e1, e2]
    (repeat' apply And.intro) <;> (try first | rfl | assumption | omega)
    · exact (by repeat (first | exact Sub.refl _ | assumption | refine Sub.up ?_ (by assumption) _))
    · exact ⟨[0, 0, 0, 0, 0], rfl, rfl, fun n hn => by simp at hn; subst hn; exact ⟨by omega, by omega⟩, fun y hy j hj => by
        rw [if_neg (by show ¬ j < 0; omega)]
        have : j = 0 ∨ j = 1 ∨ j = 2 ∨ j = 3 ∨ j = 4 := by omega
        rcases this with rfl | rfl | rfl | rfl | rfl <;> rfl⟩
  · intro i env heap hi
    obtain ⟨h0, h2, h4, h5, h6, hil, hsub, hca, hi6, ns, hcn, hn5, hnw, hns⟩ := (hI _ _ _).1 hi
    by_cases hlt : i < (fieldsL s).length
    · have hget : ((fieldsL s).map DVal.str)[i]? = some (.str (fieldsL s)[i]) := by simp [hlt]
      by_cases c2 : i = 2
      · subst c2
        have h6' : env 6 = dI 2 := h6
        simp (disch := omega) only [go_sem, Nat.reduceEqDiff, Nat.reduceAdd, Nat.reduceMul, Nat.reduceSub, Nat.reduceLeDiff, ↓reduceIte, reduceCtorEq, Int.reduceAdd, Int.reduceSub, Int.reduceMul, Int.reduceNeg, Int.reduceToNat, List.reduceReplicate, String.reduceEq, h0, h2, h4, h5, h6', dStrs]
        refine ⟨3, _, GhostS.refl _, (hI _ _ _).2 ?_, by omega⟩
        simp (disch := omega) only [go_sem, Nat.reduceEqDiff, Nat.reduceAdd, Nat.reduceMul, Nat.reduceSub, Nat.reduceLeDiff, ↓reduceIte, reduceCtorEq, Int.reduceAdd, Int.reduceSub, Int.reduceMul, Int.reduceNeg, Int.reduceToNat, List.reduceReplicate, String.reduceEq, h0, h2, h4, h5, h6', dStrs]
        (repeat' apply And.intro) <;> (try first | rfl | assumption | omega)
        exact ⟨ns, by first | rfl | assumption, hn5, hnw, hns⟩
      · by_cases c3 : 5 < i
        · simp (disch := omega) only [go_sem, Nat.reduceEqDiff, Nat.reduceAdd, Nat.reduceMul, Nat.reduceSub, Nat.reduceLeDiff, ↓reduceIte, reduceCtorEq, Int.reduceAdd, Int.reduceSub, Int.reduceMul, Int.reduceNeg, Int.reduceToNat, List.reduceReplicate, String.reduceEq, h0, h2, h4, h5, h6, dStrs, hca]
          refine hno _ (fun y hy => ?_) (by repeat (first | exact Sub.refl _ | assumption | refine Sub.up ?_ (by assumption) _))
          have := (hy0 y hy).1
          have := kindAt_le y.kind; omega
        · simp (disch := omega) only [go_sem, Nat.reduceEqDiff, Nat.reduceAdd, Nat.reduceMul, Nat.reduceSub, Nat.reduceLeDiff, ↓reduceIte, reduceCtorEq, Int.reduceAdd, Int.reduceSub, Int.reduceMul, Int.reduceNeg, Int.reduceToNat, List.reduceReplicate, String.reduceEq, h0, h2, h4, h5, h6, dStrs, hget]
          have hwl := hel (fieldsL s)[i] (List.getElem_mem hlt)
          simp only [List.length_nil, Nat.add_zero] at hwl
          refine (value_spec G heap (fieldsL s)[i] (by omega)).mono ?_
          rintro _ heap ⟨⟨v, ok, rfl, hvw, ok1, ok2⟩, rfl⟩
          have hpc : ∀ y, TextOf y s → v = (valsOf y).getD (cntOf i) 0 ∧ ok = true ∧ cntOf i < 2 + (kindAt y.kind).2 := fun y hy => by
            obtain ⟨q1, q2⟩ := text_piece (y := y) (i := i) (w := (fieldsL s)[i]) c2 (by rw [hy.2.2]; exact List.getElem?_eq_getElem hlt)
            obtain ⟨q3, q4⟩ := ok2 _ (vals_w hy.1 (cntOf i)) q1.symm
            exact ⟨q3, q4, q2⟩
          cases ok with
          | false =>
            simp (disch := omega) only [go_sem, Nat.reduceEqDiff, Nat.reduceAdd, Nat.reduceMul, Nat.reduceSub, Nat.reduceLeDiff, ↓reduceIte, reduceCtorEq, Int.reduceAdd, Int.reduceSub, Int.reduceMul, Int.reduceNeg, Int.reduceToNat, List.reduceReplicate, String.reduceEq, h0, h2, h4, h5, h6, hca]
            refine hno _ (fun y hy => ?_) (by repeat (first | exact Sub.refl _ | assumption | refine Sub.up ?_ (by assumption) _))
            have := (hpc y hy).2.1; cases this
          | true =>
            have hc5 : cntOf i < 5 := by unfold cntOf; split <;> omega
            have hset : ∀ y, TextOf y s → ReadV y (cntOf (i + 1)) (ns.set (cntOf i) v) := fun y hy j hj => by
              have hc1 : cntOf (i + 1) = cntOf i + 1 := by unfold cntOf; split <;> split <;> omega
              rw [hc1]
              by_cases e : j = cntOf i
              · subst e
                rw [List.getElem?_set_self (by omega), if_pos (by omega), (hpc y hy).1]
              · rw [List.getElem?_set_ne (by omega), hns y hy j hj]
                by_cases e3 : j < cntOf i
                · rw [if_pos e3, if_pos (by omega)]
                · rw [if_neg e3, if_neg (by omega)]
            have hsw : ∀ n ∈ ns.set (cntOf i) v, I64 n := fun n hn => by
              rcases List.mem_or_eq_of_mem_set hn with h | h
              · exact hnw n h
              · subst h; exact hvw
            have hsp : ∀ k, k < 5 → splice (ns.map dI) k [DVal.int .i64 v] = (ns.set k v).map dI := fun k hk => splice_setA dI ns k v (by omega)
            by_cases c4 : 2 < i
            · have hci : cntOf i = i - 1 := by rw [cntOf, if_neg (by omega)]
              have hw1 : IntKind.i64.wrap ((i : Int) - 1) = ((i - 1 : Nat) : Int) := by rw [IntKind.wrap_i64]; omega
              simp (disch := omega) only [go_sem, Nat.reduceEqDiff, Nat.reduceAdd, Nat.reduceMul, Nat.reduceSub, Nat.reduceLeDiff, ↓reduceIte, reduceCtorEq, Int.reduceAdd, Int.reduceSub, Int.reduceMul, Int.reduceNeg, Int.reduceToNat, List.reduceReplicate, String.reduceEq, h0, h2, h4, h5, h6, hca, hcn, hw1, hn5]
              refine ⟨i + 1, _, GhostS.sub (H' := upd heap rn (some (.cells ((ns.set (cntOf i) v).map dI) 108))) (by rw [hci, ← hsp (i - 1) (by omega)]; exact Sub.refl _), (hI _ _ _).2 ?_, by omega⟩
              simp (disch := omega) only [go_sem, Nat.reduceEqDiff, Nat.reduceAdd, Nat.reduceMul, Nat.reduceSub, Nat.reduceLeDiff, ↓reduceIte, reduceCtorEq, Int.reduceAdd, Int.reduceSub, Int.reduceMul, Int.reduceNeg, Int.reduceToNat, List.reduceReplicate, String.reduceEq, h0, h2, h4, h5, h6, hca, e1]
              (repeat' apply And.intro) <;> (try first | rfl | assumption | omega)
              · exact (by repeat (first | exact Sub.refl _ | assumption | refine Sub.up ?_ (by assumption) _))
              · exact ⟨_, rfl, by rw [List.length_set]; exact hn5, hsw, hset⟩
            · have hci : cntOf i = i := by rw [cntOf, if_pos (by omega)]
              simp (disch := omega) only [go_sem, Nat.reduceEqDiff, Nat.reduceAdd, Nat.reduceMul, Nat.reduceSub, Nat.reduceLeDiff, ↓reduceIte, reduceCtorEq, Int.reduceAdd, Int.reduceSub, Int.reduceMul, Int.reduceNeg, Int.reduceToNat, List.reduceReplicate, String.reduceEq, h0, h2, h4, h5, h6, hca, hcn, hn5]
              refine ⟨i + 1, _, GhostS.sub (H' := upd heap rn (some (.cells ((ns.set (cntOf i) v).map dI) 108))) (by rw [hci, ← hsp i (by omega)]; exact Sub.refl _), (hI _ _ _).2 ?_, by omega⟩
              simp (disch := omega) only [go_sem, Nat.reduceEqDiff, Nat.reduceAdd, Nat.reduceMul, Nat.reduceSub, Nat.reduceLeDiff, ↓reduceIte, reduceCtorEq, Int.reduceAdd, Int.reduceSub, Int.reduceMul, Int.reduceNeg, Int.reduceToNat, List.reduceReplicate, String.reduceEq, h0, h2, h4, h5, h6, hca, e1]
              (repeat' apply And.intro) <;> (try first | rfl | assumption | omega)
              · exact (by repeat (first | exact Sub.refl _ | assumption | refine Sub.up ?_ (by assumption) _))
              · exact ⟨_, rfl, by rw [List.length_set]; exact hn5, hsw, hset⟩
    · have hie : i = (fieldsL s).length := by omega
      simp (disch := omega) only [go_sem, Nat.reduceEqDiff, Nat.reduceAdd, Nat.reduceMul, Nat.reduceSub, Nat.reduceLeDiff, ↓reduceIte, reduceCtorEq, Int.reduceAdd, Int.reduceSub, Int.reduceMul, Int.reduceNeg, Int.reduceToNat, List.reduceReplicate, String.reduceEq, h0, h2, h4, h5, h6, dStrs]
      refine (words_spec G _).mono ?_
      rintro _ heap ⟨rfl, rfl⟩
      have hall : ∀ y, TextOf y s → ns = valsOf y := fun y hy => readV_all hy.2.1 hn5 (by
        have h1 := hns y hy
        rw [hie, (hy0 y hy).1] at h1
        rwa [show cntOf (3 + (kindAt y.kind).2) = 2 + (kindAt y.kind).2 by rw [cntOf, if_neg (by omega)]; omega] at h1)
      clear hns hI hi
      obtain ⟨n0, n1, n2, n3, n4, rfl⟩ : ∃ n0 n1 n2 n3 n4, ns = [n0, n1, n2, n3, n4] := by
        match ns, hn5 with
        | [a, b, c, d, e], _ => exact ⟨a, b, c, d, e, rfl⟩
      obtain ⟨w2, hw2⟩ : ∃ w2, (fieldsL s)[2]? = some w2 := ⟨_, List.getElem?_eq_getElem (by omega)⟩
      have hw2' : ((fieldsL s).map DVal.str)[2]? = some (.str w2) := by rw [List.getElem?_map, hw2]; rfl
      simp (disch := omega) only [go_sem, Nat.reduceEqDiff, Nat.reduceAdd, Nat.reduceMul, Nat.reduceSub, Nat.reduceLeDiff, ↓reduceIte, reduceCtorEq, Int.reduceAdd, Int.reduceSub, Int.reduceMul, Int.reduceNeg, Int.reduceToNat, List.reduceReplicate, String.reduceEq, h0, h2, h4, h5, h6]
      obtain ⟨J, hJ⟩ : ∃ J : Nat → (Nat → DVal) → DHeap → Prop, ∀ k env heap, J k env heap ↔ (env 0 = .str s ∧ env 2 = .optr ra 0 ∧ env 4 = dStrs (fieldsL s) ∧ env 5 = .optr rn 0 ∧ env 10 = .vslice dWords 27 ∧ env 11 = dI k ∧ k ≤ 27 ∧ Sub H heap ∧ heap ra = some (.cells [dI 0, dI 0, .int .u8 0, dI 0, dI 0, dI 0] 37) ∧ heap rn = some (.cells [dI n0, dI n1, dI n2, dI n3, dI n4] 108) ∧
        ∀ j : Nat, j < k → (kindAt ((j : Int) + 1)).1 ≠ w2) := ⟨_, fun _ _ _ => Iff.rfl⟩
      refine DLoop.run J (fun k => 27 - k) 0 ((hJ _ _ _).2 ?_) ?_
      · simp (disch := omega) only [go_sem, Nat.reduceEqDiff, Nat.reduceAdd, Nat.reduceMul, Nat.reduceSub, Nat.reduceLeDiff, ↓reduceIte, reduceCtorEq, Int.reduceAdd, Int.reduceSub, Int.reduceMul, Int.reduceNeg, Int.reduceToNat, List.reduceReplicate, String.reduceEq, h4, dStrs]
        (repeat' apply And.intro) <;> (try first | rfl | assumption | omega)
      · intro k env heap hk
        obtain ⟨h0, h2, h4, h5, h10, h11, hk27, hsub, hca, hcn, hnm⟩ := (hJ _ _ _).1 hk
        by_cases hlt : k < 27
        · have hw := dWords_at ((k : Int) + 1) (by omega) (by omega)
          rw [show ((k : Int) + 1 - 1).toNat = k by omega] at hw
          have hl3 : 3 ≤ (fieldsL s).length := by omega
          simp (disch := omega) only [go_sem, Nat.reduceEqDiff, Nat.reduceAdd, Nat.reduceMul, Nat.reduceSub, Nat.reduceLeDiff, ↓reduceIte, reduceCtorEq, Int.reduceAdd, Int.reduceSub, Int.reduceMul, Int.reduceNeg, Int.reduceToNat, List.reduceReplicate, String.reduceEq, h0, h2, h4, h5, h10, h11]
          refine dwp_draws (by kernel_rfl) (.take 0 (.take 1 (.take 2 (.take 3 (.take 4 (.take 5 (.take 6 (.take 7 .done)))))))) (by kernel_rfl) ?_
          simp (disch := omega) only [go_sem, Nat.reduceEqDiff, Nat.reduceAdd, Nat.reduceMul, Nat.reduceSub, Nat.reduceLeDiff, ↓reduceIte, reduceCtorEq, Int.reduceAdd, Int.reduceSub, Int.reduceMul, Int.reduceNeg, Int.reduceToNat, List.reduceReplicate, String.reduceEq, h0, h2, h4, h5, h10, h11, hw, hw2', dStrs, dWords_length]
          by_cases c : (kindAt ((k : Int) + 1)).1 = w2
          · have hkw : IntKind.u8.wrap (1 + IntKind.u8.wrap (k : Int)) = (k : Int) + 1 := by rw [IntKind.wrap_u8, IntKind.wrap_u8]; omega
            obtain ⟨x, hx⟩ : ∃ x : Act, x = ⟨n0, n1, (k : Int) + 1, n2, n3, n4⟩ := ⟨_, rfl⟩
            have hxa : [dI n0, dI n1, .int .u8 ((k : Int) + 1), dI n2, dI n3, dI n4] = dAct x := by rw [hx]; rfl
            have hxw : ActW x := by
              rw [hx]
              exact ⟨by show (0 : Int) ≤ (k : Int) + 1; omega, by show (k : Int) + 1 < 256; omega, hnw n0 (by simp), hnw n1 (by simp), hnw n2 (by simp), hnw n3 (by simp), hnw n4 (by simp)⟩
            have hxk : 1 ≤ x.kind ∧ x.kind < 28 := by rw [hx]; exact ⟨by show (1 : Int) ≤ (k : Int) + 1; omega, by show (k : Int) + 1 < 28; omega⟩
            have hyx : ∀ y, TextOf y s → y = x := fun y hy => by
              have h1 := hall y hy
              have h2 := (hy0 y hy).2
              rw [hw2] at h2
              have h3 : (kindAt y.kind).1 = (kindAt ((k : Int) + 1)).1 := by rw [c]; exact (Option.some.inj h2).symm
              have h4 := kindIx_word y.kind (validA_kind hy.2.1)
              rw [h3, kindIx_word _ ⟨by omega, by omega⟩] at h4
              simp only [valsOf, List.cons.injEq, and_true] at h1
              obtain ⟨q1, q2, q3, q4, q5⟩ := h1
              rw [hx]
              cases y
              simp only [Act.mk.injEq] at *
              exact ⟨q1.symm, q2.symm, h4.symm, q3.symm, q4.symm, q5.symm⟩
            have hxl : (dAct x).length = 6 := rfl
            have hxt : (dAct x).take 6 = dAct x := rfl
            have hxd : (dAct x).drop 6 = [] := rfl
            have hxo : ((dAct x).all fun x => x.one) = true := rfl
            have hxc : (DVal.agg (dAct x)).cells = dAct x := rfl
            simp (disch := omega) only [go_sem, Nat.reduceEqDiff, Nat.reduceAdd, Nat.reduceMul, Nat.reduceSub, Nat.reduceLeDiff, ↓reduceIte, reduceCtorEq, Int.reduceAdd, Int.reduceSub, Int.reduceMul, Int.reduceNeg, Int.reduceToNat, List.reduceReplicate, String.reduceEq, h0, h2, h4, h5, h10, h11, hcn, hkw]
            intro rx hrx; dsimp only at hrx
            have d1 : ¬ ra = rx := fun e => by subst e; rw [hca] at hrx; cases hrx
            have d2 : ¬ rx = ra := fun e => d1 e.symm
            have hrx' : H rx = none := Sub.lo hsub hrx
            simp (disch := omega) only [go_sem, Nat.reduceEqDiff, Nat.reduceAdd, Nat.reduceMul, Nat.reduceSub, Nat.reduceLeDiff, ↓reduceIte, reduceCtorEq, Int.reduceAdd, Int.reduceSub, Int.reduceMul, Int.reduceNeg, Int.reduceToNat, List.reduceReplicate, String.reduceEq, h0, h2, h4, h5, h10, h11, hcn, hkw, hxa, d1, d2, hxl, hxt, hxd, hxo, hxc, List.append_nil]
            refine dwp_draws (by kernel_rfl) (.take 0 (.take 1 (.go 2 [0] (.take 3 (.take 4 (.take 6 (.go 5 [1, 0] (.take 7 (.take 8 (.go 9 [4, 1] (.take 10 .done))))))))))) (by kernel_rfl) ?_
            simp (disch := omega) only [go_sem, Nat.reduceEqDiff, Nat.reduceAdd, Nat.reduceMul, Nat.reduceSub, Nat.reduceLeDiff, ↓reduceIte, reduceCtorEq, Int.reduceAdd, Int.reduceSub, Int.reduceMul, Int.reduceNeg, Int.reduceToNat, List.reduceReplicate, String.reduceEq, h0, h2, h4, h5, h10, h11, hxa, d1, d2, hxl, hxt, hxd, hxo, hxc, List.append_nil]
            refine (rvalid_spec G _ x hxw).mono ?_
            rintro _ H5 ⟨rfl, rfl⟩
            cases hv : validA x with
            | false =>
              simp (disch := omega) only [go_sem, Nat.reduceEqDiff, Nat.reduceAdd, Nat.reduceMul, Nat.reduceSub, Nat.reduceLeDiff, ↓reduceIte, reduceCtorEq, Int.reduceAdd, Int.reduceSub, Int.reduceMul, Int.reduceNeg, Int.reduceToNat, List.reduceReplicate, String.reduceEq, h0, h2, h4, h5, h10, h11, hca, hxa, d1, d2, hxl, hxt, hxd, hxo, hxc, List.append_nil]
              exact DFin.sub (H' := H) (by repeat (first | exact Sub.refl _ | assumption | refine Sub.up ?_ (by assumption) _)) (DFin.refl ⟨⟨x, false, rfl, by simp, fun ⟨y, hy⟩ => by have := hy.2.1; rw [hyx y hy, hv] at this; cases this⟩, rfl⟩)
            | true =>
              simp (disch := omega) only [go_sem, Nat.reduceEqDiff, Nat.reduceAdd, Nat.reduceMul, Nat.reduceSub, Nat.reduceLeDiff, ↓reduceIte, reduceCtorEq, Int.reduceAdd, Int.reduceSub, Int.reduceMul, Int.reduceNeg, Int.reduceToNat, List.reduceReplicate, String.reduceEq, h0, h2, h4, h5, h10, h11, hca, hxa, d1, d2, hxl, hxt, hxd, hxo, hxc, List.append_nil]
              refine (one_spec G _ x hxw hxk).mono ?_
              rintro _ H5 ⟨rfl, rfl⟩
              simp (disch := omega) only [go_sem, Nat.reduceEqDiff, Nat.reduceAdd, Nat.reduceMul, Nat.reduceSub, Nat.reduceLeDiff, ↓reduceIte, reduceCtorEq, Int.reduceAdd, Int.reduceSub, Int.reduceMul, Int.reduceNeg, Int.reduceToNat, List.reduceReplicate, String.reduceEq, h0, h2, h4, h5, h10, h11, hca, hxa, d1, d2, hxl, hxt, hxd, hxo, hxc, List.append_nil]
              refine DFin.sub (H' := H) (by repeat (first | exact Sub.refl _ | assumption | refine Sub.up ?_ (by assumption) _)) (DFin.refl ⟨⟨x, decide (oneT x = s), rfl, fun h => ⟨hxw, hv, of_decide_eq_true h⟩, fun ⟨y, hy⟩ => ?_⟩, rfl⟩)
              rw [← hyx y hy]; exact decide_eq_true hy.2.2
          · simp (disch := omega) only [go_sem, Nat.reduceEqDiff, Nat.reduceAdd, Nat.reduceMul, Nat.reduceSub, Nat.reduceLeDiff, ↓reduceIte, reduceCtorEq, Int.reduceAdd, Int.reduceSub, Int.reduceMul, Int.reduceNeg, Int.reduceToNat, List.reduceReplicate, String.reduceEq, h0, h2, h4, h5, h10, h11]
            refine ⟨k + 1, _, GhostS.refl _, (hJ _ _ _).2 ?_, by omega⟩
            simp (disch := omega) only [go_sem, Nat.reduceEqDiff, Nat.reduceAdd, Nat.reduceMul, Nat.reduceSub, Nat.reduceLeDiff, ↓reduceIte, reduceCtorEq, Int.reduceAdd, Int.reduceSub, Int.reduceMul, Int.reduceNeg, Int.reduceToNat, List.reduceReplicate, String.reduceEq, h0, h2, h4, h5, h10, h11, dStrs]
            (repeat' apply And.intro) <;> (try first | rfl | assumption | omega)
            intro j hj
            by_cases e : j = k
            · subst e; exact c
            · exact hnm j (by omega)
        · simp (disch := omega) only [go_sem, Nat.reduceEqDiff, Nat.reduceAdd, Nat.reduceMul, Nat.reduceSub, Nat.reduceLeDiff, ↓reduceIte, reduceCtorEq, Int.reduceAdd, Int.reduceSub, Int.reduceMul, Int.reduceNeg, Int.reduceToNat, List.reduceReplicate, String.reduceEq, h0, h2, h4, h5, h10, h11, hca]
          refine hno _ (fun y hy => ?_) (by repeat (first | exact Sub.refl _ | assumption | refine Sub.up ?_ (by assumption) _))
          have h1 := validA_kind hy.2.1
          have h2 := (hy0 y hy).2
          rw [hw2] at h2
          refine hnm (y.kind - 1).toNat (by omega) ?_
          rw [show (((y.kind - 1).toNat : Nat) : Int) + 1 = y.kind by omega]
          exact (Option.some.inj h2).symm
end Go.Dl

-- Chapter 35: the reference's Read.
namespace Go.Dl
open Go Go.Proofs
set_option maxRecDepth 10000

theorem rread_spec (G : Nat → DVal) (H : DHeap) (s : List UInt8) (hs : s.length ≤ 1000000) :
    DCalls Tryd.prog G 16 [.str s] H (DRet (.tuple [dActs (readL s).1, dI (readL s).2.1, dI (readL s).2.2]) H) := by
  refine dcalls_intro Tryd.func16 Tryd.call16 rfl (by kernel_rfl) ?_
  have hrl : readL s = rdL s [] := by rw [readL, if_neg (by omega)]
  rw [hrl]
  simp (disch := omega) only [go_sem, Nat.reduceEqDiff, Nat.reduceAdd, Nat.reduceMul, Nat.reduceSub, Nat.reduceLeDiff, ↓reduceIte, reduceCtorEq, Int.reduceAdd, Int.reduceSub, Int.reduceMul, Int.reduceNeg, Int.reduceToNat, List.reduceReplicate, String.reduceEq]
  obtain ⟨I, hI⟩ : ∃ I : Nat × List Act → (Nat → DVal) → DHeap → Prop, ∀ ix env heap, I ix env heap ↔ (env 0 = .str s ∧ env 6 = dI ix.1 ∧ ix.1 ≤ s.length ∧ rdL (s.drop ix.1) ix.2 = rdL s [] ∧ ix.2.length ≤ ix.1 ∧ OAJ H ix.2 (env 5) heap) := ⟨_, fun _ _ _ => Iff.rfl⟩
  refine DLoop.run I (fun ix => s.length - ix.1) (0, []) ((hI _ _ _).2 ?_) ?_
  · simp (disch := omega) only [go_sem, Nat.reduceEqDiff, Nat.reduceAdd, Nat.reduceMul, Nat.reduceSub, Nat.reduceLeDiff, ↓reduceIte, reduceCtorEq, Int.reduceAdd, Int.reduceSub, Int.reduceMul, Int.reduceNeg, Int.reduceToNat, List.reduceReplicate, String.reduceEq]
    (repeat' apply And.intro) <;> (try first | rfl | assumption | omega)
    exact OwnJ.nil _ _ (Sub.refl _)
  · rintro ⟨fr, acc⟩ env heap hi
    obtain ⟨h0, h6, hfs, hrd, hal, hv⟩ := (hI _ _ _).1 hi
    dsimp only at h6 hfs hrd hal hv
    by_cases hlt : fr < s.length
    · simp (disch := omega) only [go_sem, Nat.reduceEqDiff, Nat.reduceAdd, Nat.reduceMul, Nat.reduceSub, Nat.reduceLeDiff, ↓reduceIte, reduceCtorEq, Int.reduceAdd, Int.reduceSub, Int.reduceMul, Int.reduceNeg, Int.reduceToNat, List.reduceReplicate, String.reduceEq, h0, h6, hlt]
      obtain ⟨J, hJ⟩ : ∃ J : Nat → (Nat → DVal) → DHeap → Prop, ∀ to env heap, J to env heap ↔ (env 0 = .str s ∧ env 6 = dI fr ∧ env 7 = dI to ∧ fr ≤ to ∧ to ≤ s.length ∧ (∀ j, fr ≤ j → j < to → s[j]? ≠ some 10) ∧ OAJ H acc (env 5) heap) := ⟨_, fun _ _ _ => Iff.rfl⟩
      refine DLoop.run J (fun to => s.length - to) fr ((hJ _ _ _).2 ?_) ?_
      · simp (disch := omega) only [go_sem, Nat.reduceEqDiff, Nat.reduceAdd, Nat.reduceMul, Nat.reduceSub, Nat.reduceLeDiff, ↓reduceIte, reduceCtorEq, Int.reduceAdd, Int.reduceSub, Int.reduceMul, Int.reduceNeg, Int.reduceToNat, List.reduceReplicate, String.reduceEq, h0, h6]
        (repeat' apply And.intro) <;> (try first | rfl | assumption | omega)
      · intro to env heap hj
        obtain ⟨h0, h6, h7, hft, hts, hnl, hv⟩ := (hJ _ _ _).1 hj
        have hlen : ∀ {dst : Option Nat} {K : DK} {s : DS} {t : TypeId}, dLen dst (some (.slice t)) (env 5) K s = dput dst (dI acc.length) K s := fun {_ _ _ _} => hv.len
        have bad : ∀ heap', Sub H heap' → rdL (s.drop fr) acc = ([], (acc.length : Int) + 1, 350) → DFin (DRet (.tuple [dActs (rdL s []).1, dI (rdL s []).2.1, dI (rdL s []).2.2]) H) (.tuple [.nilSlice, dI ((acc.length : Int) + 1), dI 350]) heap' := fun heap' hsub hst => by
          refine DFin.sub hsub (DFin.le (v' := .tuple [dActs [], dI ((acc.length : Int) + 1), dI 350]) (DLe.tuple (.cons .nil (.refl _))) (DFin.refl ⟨?_, rfl⟩))
          rw [← hrd, hst]
        obtain ⟨w, hww⟩ : ∃ w, (s.drop fr).take (to - fr) = w := ⟨_, rfl⟩
        have hwlen : w.length ≤ 1000000 := by rw [← hww]; simp; omega
        have hsub0 := OwnJ.sub hv
        have hxl : ∀ x, (dAct x).length = 6 := fun _ => rfl
        have hxt : ∀ x, (dAct x).take 6 = dAct x := fun _ => rfl
        have hxd : ∀ x, (dAct x).drop 6 = [] := fun _ => rfl
        have hxo : ∀ x, ((dAct x).all fun x => x.one) = true := fun _ => rfl
        have hxc : ∀ x, (DVal.agg (dAct x)).cells = dAct x := fun _ => rfl
        have hx0 : ∀ x, (dAct x)[0]? = some (dI x.time) := fun _ => rfl
        have hsl : fr + (to - fr) ≤ s.length := by omega
        by_cases htl : to < s.length
        · have hget : s[to]? = some s[to] := List.getElem?_eq_getElem htl
          by_cases c : s[to] = 10
          · have c' : (s[to].toNat : Int) = 10 := by rw [c]; rfl
            have hne : ¬ (to : Int) = (s.length : Int) := by omega
            obtain ⟨lf1, lf2⟩ := lf_step hft htl c hnl
            rw [hww] at lf1 lf2
            simp (disch := omega) only [go_sem, Nat.reduceEqDiff, Nat.reduceAdd, Nat.reduceMul, Nat.reduceSub, Nat.reduceLeDiff, ↓reduceIte, reduceCtorEq, Int.reduceAdd, Int.reduceSub, Int.reduceMul, Int.reduceNeg, Int.reduceToNat, List.reduceReplicate, String.reduceEq, h0, h6, h7, hget, htl, c', hww]
            refine (ract_spec G heap w hwlen).mono ?_
            rintro _ heap ⟨⟨x, ok, rfl, ok1, ok2⟩, rfl⟩
            simp (disch := omega) only [go_sem, Nat.reduceEqDiff, Nat.reduceAdd, Nat.reduceMul, Nat.reduceSub, Nat.reduceLeDiff, ↓reduceIte, reduceCtorEq, Int.reduceAdd, Int.reduceSub, Int.reduceMul, Int.reduceNeg, Int.reduceToNat, List.reduceReplicate, String.reduceEq, h0, h6, h7]
            intro ra hra; dsimp only at hra
            have hov := OwnJ.new (e := 37) (size := 6) (n := acc.length) (cs := acc.flatMap dAct) hv hra (some (.cells (dAct x) 37))
            have hsub1 := OwnJ.sub hov
            simp (disch := omega) only [go_sem, Nat.reduceEqDiff, Nat.reduceAdd, Nat.reduceMul, Nat.reduceSub, Nat.reduceLeDiff, ↓reduceIte, reduceCtorEq, Int.reduceAdd, Int.reduceSub, Int.reduceMul, Int.reduceNeg, Int.reduceToNat, List.reduceReplicate, String.reduceEq, h0, h6, h7, hxl, hxt, hxd, hxo, hxc, List.append_nil]
            refine dwp_draws (by kernel_rfl) (.take 0 (.take 1 (.take 2 (.take 3 (.take 4 (.take 5 (.take 6 (.take 7 (.take 8 (.take 9 (.take 10 (.take 11 (.take 12 (.take 13 (.take 14 (.take 15 (.take 16 (.take 17 (.take 18 (.take 19 (.take 20 (.take 21 (.take 22 (.take 23 (.take 24 (.take 25 (.take 26 (.take 27 (.take 28 (.take 29 .done)))))))))))))))))))))))))))))) (by kernel_rfl) ?_
            have hrl1 := rdL_line (r := s.drop (to + 1)) lf2 acc
            rw [← lf1] at hrl1
            cases ok with
            | false =>
              simp (disch := omega) only [go_sem, Nat.reduceEqDiff, Nat.reduceAdd, Nat.reduceMul, Nat.reduceSub, Nat.reduceLeDiff, ↓reduceIte, reduceCtorEq, Int.reduceAdd, Int.reduceSub, Int.reduceMul, Int.reduceNeg, Int.reduceToNat, List.reduceReplicate, String.reduceEq, h0, h6, h7, hlen]
              refine bad _ hsub1 ?_
              rw [hrl1, stepR, actOf_none fun y hy => by have := ok2 ⟨y, hy⟩; cases this]
            | true =>
              have hst : stepR w acc = if acc.length = 100000 ∨ early acc x = true then none else some (acc ++ [x]) := by
                rw [stepR, actOf_some (ok1 rfl)]
              by_cases c3 : acc.length = 100000
              · have c3' : (acc.length : Int) = 100000 := by omega
                simp (disch := omega) only [go_sem, Nat.reduceEqDiff, Nat.reduceAdd, Nat.reduceMul, Nat.reduceSub, Nat.reduceLeDiff, ↓reduceIte, reduceCtorEq, Int.reduceAdd, Int.reduceSub, Int.reduceMul, Int.reduceNeg, Int.reduceToNat, List.reduceReplicate, String.reduceEq, h0, h6, h7, hlen, c3', hne]
                rw [show (DVal.int .i64 100001) = dI ((acc.length : Int) + 1) by rw [c3']; rfl]
                refine bad _ hsub1 ?_
                rw [hrl1, hst, if_pos (.inl c3)]
              · have c3' : ¬ (acc.length : Int) = 100000 := by omega
                by_cases hz : acc.length = 0
                · have hz0 : acc = [] := List.length_eq_zero_iff.1 hz
                  subst hz0
                  simp (disch := omega) only [go_sem, Nat.reduceEqDiff, Nat.reduceAdd, Nat.reduceMul, Nat.reduceSub, Nat.reduceLeDiff, ↓reduceIte, reduceCtorEq, Int.reduceAdd, Int.reduceSub, Int.reduceMul, Int.reduceNeg, Int.reduceToNat, List.reduceReplicate, String.reduceEq, h0, h6, h7, hlen, c3', hne, hxl, hxt, hxd, hxo, hxc, List.append_nil]
                  have hst' : stepR w [] = some ([] ++ [x]) := by rw [hst]; simp [early]
                  rw [hst'] at hrl1
                  intro rl hrl2; dsimp only at hrl2
                  simp (disch := omega) only [go_sem, Nat.reduceEqDiff, Nat.reduceAdd, Nat.reduceMul, Nat.reduceSub, Nat.reduceLeDiff, ↓reduceIte, reduceCtorEq, Int.reduceAdd, Int.reduceSub, Int.reduceMul, Int.reduceNeg, Int.reduceToNat, List.reduceReplicate, String.reduceEq, hxl, hxt, hxo]
                  refine OAJ.app (bytes := 48) (OwnJ.new hov hrl2 _) (by simp) fun v2 H2 hv2 => ?_
                  simp (disch := omega) only [go_sem, Nat.reduceEqDiff, Nat.reduceAdd, Nat.reduceMul, Nat.reduceSub, Nat.reduceLeDiff, ↓reduceIte, reduceCtorEq, Int.reduceAdd, Int.reduceSub, Int.reduceMul, Int.reduceNeg, Int.reduceToNat, List.reduceReplicate, String.reduceEq, h0, h6, h7]
                  refine ⟨(to + 1, [] ++ [x]), _, GhostS.refl _, (hI _ _ _).2 ?_, by dsimp only; omega⟩
                  simp (disch := omega) only [go_sem, Nat.reduceEqDiff, Nat.reduceAdd, Nat.reduceMul, Nat.reduceSub, Nat.reduceLeDiff, ↓reduceIte, reduceCtorEq, Int.reduceAdd, Int.reduceSub, Int.reduceMul, Int.reduceNeg, Int.reduceToNat, List.reduceReplicate, String.reduceEq, h0, h6, h7]
                  (repeat' apply And.intro) <;> (try first | rfl | assumption | omega)
                  exact hrl1.symm.trans hrd
                · have hne0 : acc ≠ [] := fun e => hz (by rw [e]; rfl)
                  have hel := early_last (x := x) hne0
                  have ht := act_time acc (acc.length - 1) (by omega)
                  have hg : acc.getD (acc.length - 1) default = acc[acc.length - 1] := by simp [List.getD, List.getElem?_eq_getElem (show acc.length - 1 < acc.length by omega)]
                  rw [hg] at hel
                  obtain ⟨rv, hrv, hcl, h2, hrc, hrs⟩ : ∃ r, H r = none ∧ (acc.flatMap dAct).length = acc.length * 6 ∧ env 5 = .oslice 6 r 0 acc.length acc.length ∧ heap r = some (.cells (acc.flatMap dAct) 37) ∧ Sub H heap := hv.resolve_left fun h => hz h.1
                  have d4 : ¬ rv = ra := fun e => by subst e; rw [hrc] at hra; cases hra
                  have hw2 : IntKind.i64.wrap ((acc.length : Int) - 1) = (acc.length : Int) - 1 := by rw [IntKind.wrap_i64]; omega
                  have hw3 : ((acc.length : Int) - 1).toNat = acc.length - 1 := by omega
                  have hix : ∀ {dst : Option Nat} {K : DK} {s : DS}, dIndexAddr Tryd.prog dst (some (.slice 37)) (env 5) (.int .i64 ((acc.length : Int) - 1)) K s = dput dst (.optr rv ((acc.length - 1) * 6)) K s := by
                    intro dst K s
                    rw [h2]
                    simp (disch := omega) only [go_sem, Nat.reduceEqDiff, Nat.reduceAdd, Nat.reduceMul, Nat.reduceSub, Nat.reduceLeDiff, ↓reduceIte, reduceCtorEq, Int.reduceAdd, Int.reduceSub, Int.reduceMul, Int.reduceNeg, Int.reduceToNat, List.reduceReplicate, String.reduceEq, hw3]
                  by_cases c5 : x.time < acc[acc.length - 1].time
                  · simp (disch := omega) only [go_sem, Nat.reduceEqDiff, Nat.reduceAdd, Nat.reduceMul, Nat.reduceSub, Nat.reduceLeDiff, ↓reduceIte, reduceCtorEq, Int.reduceAdd, Int.reduceSub, Int.reduceMul, Int.reduceNeg, Int.reduceToNat, List.reduceReplicate, String.reduceEq, h0, h6, h7, d4, hlen, hix, hrc, c3', hne, hxl, hxt, hxd, hxo, hxc, hx0, hw2, hw3, ht, hcl]
                    refine bad _ hsub1 ?_
                    rw [hrl1, hst, if_pos (.inr (by rw [hel]; exact decide_eq_true c5))]
                  · have hst' : stepR w acc = some (acc ++ [x]) := by rw [hst, if_neg]; rw [hel]; simp [c3, c5]
                    rw [hst'] at hrl1
                    simp (disch := omega) only [go_sem, Nat.reduceEqDiff, Nat.reduceAdd, Nat.reduceMul, Nat.reduceSub, Nat.reduceLeDiff, ↓reduceIte, reduceCtorEq, Int.reduceAdd, Int.reduceSub, Int.reduceMul, Int.reduceNeg, Int.reduceToNat, List.reduceReplicate, String.reduceEq, h0, h6, h7, d4, hlen, hix, hrc, c3', hne, hxl, hxt, hxd, hxo, hxc, hx0, hw2, hw3, ht, hcl, List.append_nil]
                    intro rl hrl2; dsimp only at hrl2
                    simp (disch := omega) only [go_sem, Nat.reduceEqDiff, Nat.reduceAdd, Nat.reduceMul, Nat.reduceSub, Nat.reduceLeDiff, ↓reduceIte, reduceCtorEq, Int.reduceAdd, Int.reduceSub, Int.reduceMul, Int.reduceNeg, Int.reduceToNat, List.reduceReplicate, String.reduceEq, hxl, hxt, hxo]
                    refine OAJ.app (bytes := 48) (OwnJ.new hov hrl2 _) (by have := hal; omega) fun v2 H2 hv2 => ?_
                    simp (disch := omega) only [go_sem, Nat.reduceEqDiff, Nat.reduceAdd, Nat.reduceMul, Nat.reduceSub, Nat.reduceLeDiff, ↓reduceIte, reduceCtorEq, Int.reduceAdd, Int.reduceSub, Int.reduceMul, Int.reduceNeg, Int.reduceToNat, List.reduceReplicate, String.reduceEq, h0, h6, h7]
                    refine ⟨(to + 1, acc ++ [x]), _, GhostS.refl _, (hI _ _ _).2 ?_, by dsimp only; omega⟩
                    simp (disch := omega) only [go_sem, Nat.reduceEqDiff, Nat.reduceAdd, Nat.reduceMul, Nat.reduceSub, Nat.reduceLeDiff, ↓reduceIte, reduceCtorEq, Int.reduceAdd, Int.reduceSub, Int.reduceMul, Int.reduceNeg, Int.reduceToNat, List.reduceReplicate, String.reduceEq, h0, h6, h7]
                    (repeat' apply And.intro) <;> (try first | rfl | assumption | omega)
                    · exact hrl1.symm.trans hrd
                    · simp; omega
          · have c' : ¬ (s[to].toNat : Int) = 10 := toNat_ne (d := 10) c
            simp (disch := omega) only [go_sem, Nat.reduceEqDiff, Nat.reduceAdd, Nat.reduceMul, Nat.reduceSub, Nat.reduceLeDiff, ↓reduceIte, reduceCtorEq, Int.reduceAdd, Int.reduceSub, Int.reduceMul, Int.reduceNeg, Int.reduceToNat, List.reduceReplicate, String.reduceEq, h0, h6, h7, hget, htl, c']
            refine ⟨to + 1, _, GhostS.refl _, (hJ _ _ _).2 ?_, by omega⟩
            simp (disch := omega) only [go_sem, Nat.reduceEqDiff, Nat.reduceAdd, Nat.reduceMul, Nat.reduceSub, Nat.reduceLeDiff, ↓reduceIte, reduceCtorEq, Int.reduceAdd, Int.reduceSub, Int.reduceMul, Int.reduceNeg, Int.reduceToNat, List.reduceReplicate, String.reduceEq, h0, h6, h7]
            (repeat' apply And.intro) <;> (try first | rfl | assumption | omega)
            intro j hj hj2
            by_cases e : j < to
            · exact hnl j hj e
            · have : j = to := by omega
              subst this; rw [hget]; intro e3; exact c (Option.some.inj e3)
        · have hte : to = s.length := by omega
          subst hte
          have hrn : rdL (s.drop fr) acc = ([], (acc.length : Int) + 1, 350) := rdL_none (fun e => by have := congrArg List.length e; simp at this; omega) (fun c hc e => by
            subst e
            obtain ⟨j, hj, he⟩ := List.mem_iff_getElem.1 hc
            rw [List.getElem_drop] at he
            simp at hj
            refine hnl (fr + j) (by omega) (by omega) ?_
            rw [List.getElem?_eq_getElem (by omega), he]) acc
          simp (disch := omega) only [go_sem, Nat.reduceEqDiff, Nat.reduceAdd, Nat.reduceMul, Nat.reduceSub, Nat.reduceLeDiff, ↓reduceIte, reduceCtorEq, Int.reduceAdd, Int.reduceSub, Int.reduceMul, Int.reduceNeg, Int.reduceToNat, List.reduceReplicate, String.reduceEq, h0, h6, h7, hww]
          refine (ract_spec G heap w hwlen).mono ?_
          rintro _ heap ⟨⟨x, ok, rfl, ok1, ok2⟩, rfl⟩
          simp (disch := omega) only [go_sem, Nat.reduceEqDiff, Nat.reduceAdd, Nat.reduceMul, Nat.reduceSub, Nat.reduceLeDiff, ↓reduceIte, reduceCtorEq, Int.reduceAdd, Int.reduceSub, Int.reduceMul, Int.reduceNeg, Int.reduceToNat, List.reduceReplicate, String.reduceEq, h0, h6, h7]
          intro ra hra; dsimp only at hra
          have hsub1 := hsub0.new hra (some (.cells (dAct x) 37))
          simp (disch := omega) only [go_sem, Nat.reduceEqDiff, Nat.reduceAdd, Nat.reduceMul, Nat.reduceSub, Nat.reduceLeDiff, ↓reduceIte, reduceCtorEq, Int.reduceAdd, Int.reduceSub, Int.reduceMul, Int.reduceNeg, Int.reduceToNat, List.reduceReplicate, String.reduceEq, h0, h6, h7, hxl, hxt, hxd, hxo, hxc, List.append_nil]
          refine dwp_draws (by kernel_rfl) (.take 0 (.take 1 (.take 2 (.take 3 (.take 4 (.take 5 (.take 6 (.take 7 (.take 8 (.take 9 (.take 10 (.take 11 (.take 12 (.take 13 (.take 14 (.take 15 (.take 16 (.take 17 (.take 18 (.take 19 (.take 20 (.take 21 (.take 22 (.take 23 (.take 24 (.take 25 (.take 26 (.take 27 (.take 28 (.take 29 .done)))))))))))))))))))))))))))))) (by kernel_rfl) ?_
          cases ok with
          | false =>
            simp (disch := omega) only [go_sem, Nat.reduceEqDiff, Nat.reduceAdd, Nat.reduceMul, Nat.reduceSub, Nat.reduceLeDiff, ↓reduceIte, reduceCtorEq, Int.reduceAdd, Int.reduceSub, Int.reduceMul, Int.reduceNeg, Int.reduceToNat, List.reduceReplicate, String.reduceEq, h0, h6, h7, hlen]
            exact bad _ hsub1 hrn
          | true =>
            simp (disch := omega) only [go_sem, Nat.reduceEqDiff, Nat.reduceAdd, Nat.reduceMul, Nat.reduceSub, Nat.reduceLeDiff, ↓reduceIte, reduceCtorEq, Int.reduceAdd, Int.reduceSub, Int.reduceMul, Int.reduceNeg, Int.reduceToNat, List.reduceReplicate, String.reduceEq, h0, h6, h7, hlen]
            exact bad _ hsub1 hrn
    · simp (disch := omega) only [go_sem, Nat.reduceEqDiff, Nat.reduceAdd, Nat.reduceMul, Nat.reduceSub, Nat.reduceLeDiff, ↓reduceIte, reduceCtorEq, Int.reduceAdd, Int.reduceSub, Int.reduceMul, Int.reduceNeg, Int.reduceToNat, List.reduceReplicate, String.reduceEq, h0, h6, hlt]
      have hrn : rdL (s.drop fr) acc = (acc, 0, 0) := by rw [List.drop_of_length_le (by omega), rdL_nil]
      rw [hrn] at hrd
      refine DFin.ghost (OwnJ.ghostT hv (fun r cs => rfl)) (DFin.refl ⟨?_, rfl⟩)
      rw [← hrd]; rfl
end Go.Dl

-- Chapter 35: slices.Equal; Of, Puts.
namespace Go.Dl
open Go Go.Proofs
set_option maxRecDepth 10000

structure Actn where
  task : Int
  entry : Int
  frm : Int
  to : Int
  over : Bool
  opn : Bool
  deriving DecidableEq, Inhabited
def dActn (x : Actn) : List DVal := [dI x.task, dI x.entry, dI x.frm, dI x.to, .bool x.over, .bool x.opn]
theorem dActn_length (x : Actn) : (dActn x).length = 6 := rfl
structure Jb where
  release : Int
  wake : Int
  done : Int
  deriving DecidableEq, Inhabited
def dJb (x : Jb) : List DVal := [dI x.release, dI x.wake, dI x.done]
theorem dJb_length (x : Jb) : (dJb x).length = 3 := rfl

theorem andO_ss (a b : Bool) : andO (some a) (some b) = some (a && b) := by cases a <;> rfl
theorem eqT_act (x y : Act) : dEqT Tryd.prog 6 37 (dAct x) (dAct y) = some (decide (x = y)) := by
  simp (disch := omega) only [go_sem, Nat.reduceEqDiff, Nat.reduceAdd, Nat.reduceMul, Nat.reduceSub, Nat.reduceLeDiff, ↓reduceIte, reduceCtorEq, Int.reduceAdd, Int.reduceSub, Int.reduceMul, Int.reduceNeg, Int.reduceToNat, List.reduceReplicate, String.reduceEq, dAct]
  simp only [andO_ss, Option.some.injEq]
  cases x; cases y
  simp only [Act.mk.injEq, Bool.decide_and, Bool.and_true]
theorem eqT_actn (x y : Actn) : dEqT Tryd.prog 6 43 (dActn x) (dActn y) = some (decide (x = y)) := by
  simp (disch := omega) only [go_sem, Nat.reduceEqDiff, Nat.reduceAdd, Nat.reduceMul, Nat.reduceSub, Nat.reduceLeDiff, ↓reduceIte, reduceCtorEq, Int.reduceAdd, Int.reduceSub, Int.reduceMul, Int.reduceNeg, Int.reduceToNat, List.reduceReplicate, String.reduceEq, dActn]
  simp only [andO_ss, Option.some.injEq]
  cases x; cases y
  simp only [Actn.mk.injEq, Bool.decide_and, Bool.and_true]
theorem eqT_jb (x y : Jb) : dEqT Tryd.prog 6 56 (dJb x) (dJb y) = some (decide (x = y)) := by
  simp (disch := omega) only [go_sem, Nat.reduceEqDiff, Nat.reduceAdd, Nat.reduceMul, Nat.reduceSub, Nat.reduceLeDiff, ↓reduceIte, reduceCtorEq, Int.reduceAdd, Int.reduceSub, Int.reduceMul, Int.reduceNeg, Int.reduceToNat, List.reduceReplicate, String.reduceEq, dJb]
  simp only [andO_ss, Option.some.injEq]
  cases x; cases y
  simp only [Jb.mk.injEq, Bool.decide_and, Bool.and_true]
theorem take_eq_next {α : Type} {l m : List α} {i : Nat} (h : l.take i = m.take i) (hl : i < l.length) (hm : i < m.length) (he : l[i] = m[i]) : l.take (i + 1) = m.take (i + 1) := by
  rw [List.take_succ_eq_append_getElem hl, List.take_succ_eq_append_getElem hm, h, he]
theorem equal_act (G : Nat → DVal) (H : DHeap) (l m : List Act) (hl : l.length ≤ 1099511627776) (hm : m.length ≤ 1099511627776) :
    DCalls Tryd.prog G 17 [.vslice (l.flatMap dAct) l.length, .vslice (m.flatMap dAct) m.length] H (DRet (.bool (decide (l = m))) H) := by
  refine dcalls_intro Tryd.func17 Tryd.call17 rfl (by kernel_rfl) ?_
  by_cases c : l.length = m.length
  · have c' : (l.length : Int) = (m.length : Int) := by omega
    simp (disch := omega) only [go_sem, Nat.reduceEqDiff, Nat.reduceAdd, Nat.reduceMul, Nat.reduceSub, Nat.reduceLeDiff, ↓reduceIte, reduceCtorEq, Int.reduceAdd, Int.reduceSub, Int.reduceMul, Int.reduceNeg, Int.reduceToNat, List.reduceReplicate, String.reduceEq]
    refine DLoop.run (fun (i : Nat) env heap => heap = H ∧ env 0 = .vslice (l.flatMap dAct) l.length ∧ env 1 = .vslice (m.flatMap dAct) m.length ∧ env 12 = dI l.length ∧ env 13 = dI i ∧ i ≤ l.length ∧ l.take i = m.take i) (fun i => l.length - i) 0 ?_ ?_
    · simp (disch := omega) only [go_sem, Nat.reduceEqDiff, Nat.reduceAdd, Nat.reduceMul, Nat.reduceSub, Nat.reduceLeDiff, ↓reduceIte, reduceCtorEq, Int.reduceAdd, Int.reduceSub, Int.reduceMul, Int.reduceNeg, Int.reduceToNat, List.reduceReplicate, String.reduceEq]
      (repeat' apply And.intro) <;> (try first | rfl | assumption | omega)
    · rintro i env heap ⟨rfl, h0, h1, h12, h13, hi, he⟩
      by_cases hlt : i < l.length
      · have hlm : i < m.length := by omega
        have hg1 := flat_el dAct_length l i hlt
        have hg2 := flat_el dAct_length m i hlm
        simp (disch := omega) only [go_sem, Nat.reduceEqDiff, Nat.reduceAdd, Nat.reduceMul, Nat.reduceSub, Nat.reduceLeDiff, ↓reduceIte, reduceCtorEq, Int.reduceAdd, Int.reduceSub, Int.reduceMul, Int.reduceNeg, Int.reduceToNat, List.reduceReplicate, String.reduceEq, h0, h1, h12, h13]
        refine dwp_draws (by kernel_rfl) (.take 0 (.take 1 (.take 2 (.take 3 (.take 4 (.take 5 (.take 6 (.take 7 (.take 8 .done))))))))) (by kernel_rfl) ?_
        simp (disch := omega) only [go_sem, Nat.reduceEqDiff, Nat.reduceAdd, Nat.reduceMul, Nat.reduceSub, Nat.reduceLeDiff, ↓reduceIte, reduceCtorEq, Int.reduceAdd, Int.reduceSub, Int.reduceMul, Int.reduceNeg, Int.reduceToNat, List.reduceReplicate, String.reduceEq, h0, h1, h12, h13, hg1, hg2, flat_len dAct_length, eqT_act]
        by_cases hx : l[i] = m[i]
        · simp (disch := omega) only [go_sem, Nat.reduceEqDiff, Nat.reduceAdd, Nat.reduceMul, Nat.reduceSub, Nat.reduceLeDiff, ↓reduceIte, reduceCtorEq, Int.reduceAdd, Int.reduceSub, Int.reduceMul, Int.reduceNeg, Int.reduceToNat, List.reduceReplicate, String.reduceEq, h0, h1, h12, h13, hx]
          refine ⟨i + 1, _, GhostS.refl _, ?_, by omega⟩
          simp (disch := omega) only [go_sem, Nat.reduceEqDiff, Nat.reduceAdd, Nat.reduceMul, Nat.reduceSub, Nat.reduceLeDiff, ↓reduceIte, reduceCtorEq, Int.reduceAdd, Int.reduceSub, Int.reduceMul, Int.reduceNeg, Int.reduceToNat, List.reduceReplicate, String.reduceEq, h0, h1, h12, h13]
          (repeat' apply And.intro) <;> (try first | rfl | assumption | omega)
          exact take_eq_next he hlt hlm hx
        · simp (disch := omega) only [go_sem, Nat.reduceEqDiff, Nat.reduceAdd, Nat.reduceMul, Nat.reduceSub, Nat.reduceLeDiff, ↓reduceIte, reduceCtorEq, Int.reduceAdd, Int.reduceSub, Int.reduceMul, Int.reduceNeg, Int.reduceToNat, List.reduceReplicate, String.reduceEq, h0, h1, h12, h13, hx]
          refine DFin.refl ⟨?_, rfl⟩
          rw [decide_eq_false]
          intro e; subst e; exact hx rfl
      · simp (disch := omega) only [go_sem, Nat.reduceEqDiff, Nat.reduceAdd, Nat.reduceMul, Nat.reduceSub, Nat.reduceLeDiff, ↓reduceIte, reduceCtorEq, Int.reduceAdd, Int.reduceSub, Int.reduceMul, Int.reduceNeg, Int.reduceToNat, List.reduceReplicate, String.reduceEq, h0, h1, h12, h13]
        have : i = l.length := by omega
        subst this
        rw [List.take_length, c, List.take_length] at he
        subst he
        exact DFin.refl ⟨by simp, rfl⟩
  · have c' : ¬ (l.length : Int) = (m.length : Int) := by omega
    simp (disch := omega) only [go_sem, Nat.reduceEqDiff, Nat.reduceAdd, Nat.reduceMul, Nat.reduceSub, Nat.reduceLeDiff, ↓reduceIte, reduceCtorEq, Int.reduceAdd, Int.reduceSub, Int.reduceMul, Int.reduceNeg, Int.reduceToNat, List.reduceReplicate, String.reduceEq, c']
    refine DFin.refl ⟨?_, rfl⟩
    rw [decide_eq_false]
    intro e; subst e; exact c rfl
theorem equal_actn (G : Nat → DVal) (H : DHeap) (l m : List Actn) (hl : l.length ≤ 1099511627776) (hm : m.length ≤ 1099511627776) :
    DCalls Tryd.prog G 27 [.vslice (l.flatMap dActn) l.length, .vslice (m.flatMap dActn) m.length] H (DRet (.bool (decide (l = m))) H) := by
  refine dcalls_intro Tryd.func27 Tryd.call27 rfl (by kernel_rfl) ?_
  by_cases c : l.length = m.length
  · have c' : (l.length : Int) = (m.length : Int) := by omega
    simp (disch := omega) only [go_sem, Nat.reduceEqDiff, Nat.reduceAdd, Nat.reduceMul, Nat.reduceSub, Nat.reduceLeDiff, ↓reduceIte, reduceCtorEq, Int.reduceAdd, Int.reduceSub, Int.reduceMul, Int.reduceNeg, Int.reduceToNat, List.reduceReplicate, String.reduceEq]
    refine DLoop.run (fun (i : Nat) env heap => heap = H ∧ env 0 = .vslice (l.flatMap dActn) l.length ∧ env 1 = .vslice (m.flatMap dActn) m.length ∧ env 12 = dI l.length ∧ env 13 = dI i ∧ i ≤ l.length ∧ l.take i = m.take i) (fun i => l.length - i) 0 ?_ ?_
    · simp (disch := omega) only [go_sem, Nat.reduceEqDiff, Nat.reduceAdd, Nat.reduceMul, Nat.reduceSub, Nat.reduceLeDiff, ↓reduceIte, reduceCtorEq, Int.reduceAdd, Int.reduceSub, Int.reduceMul, Int.reduceNeg, Int.reduceToNat, List.reduceReplicate, String.reduceEq]
      (repeat' apply And.intro) <;> (try first | rfl | assumption | omega)
    · rintro i env heap ⟨rfl, h0, h1, h12, h13, hi, he⟩
      by_cases hlt : i < l.length
      · have hlm : i < m.length := by omega
        have hg1 := flat_el dActn_length l i hlt
        have hg2 := flat_el dActn_length m i hlm
        simp (disch := omega) only [go_sem, Nat.reduceEqDiff, Nat.reduceAdd, Nat.reduceMul, Nat.reduceSub, Nat.reduceLeDiff, ↓reduceIte, reduceCtorEq, Int.reduceAdd, Int.reduceSub, Int.reduceMul, Int.reduceNeg, Int.reduceToNat, List.reduceReplicate, String.reduceEq, h0, h1, h12, h13]
        refine dwp_draws (by kernel_rfl) (.take 0 (.take 1 (.take 2 (.take 3 (.take 4 (.take 5 (.take 6 (.take 7 (.take 8 .done))))))))) (by kernel_rfl) ?_
        simp (disch := omega) only [go_sem, Nat.reduceEqDiff, Nat.reduceAdd, Nat.reduceMul, Nat.reduceSub, Nat.reduceLeDiff, ↓reduceIte, reduceCtorEq, Int.reduceAdd, Int.reduceSub, Int.reduceMul, Int.reduceNeg, Int.reduceToNat, List.reduceReplicate, String.reduceEq, h0, h1, h12, h13, hg1, hg2, flat_len dActn_length, eqT_actn]
        by_cases hx : l[i] = m[i]
        · simp (disch := omega) only [go_sem, Nat.reduceEqDiff, Nat.reduceAdd, Nat.reduceMul, Nat.reduceSub, Nat.reduceLeDiff, ↓reduceIte, reduceCtorEq, Int.reduceAdd, Int.reduceSub, Int.reduceMul, Int.reduceNeg, Int.reduceToNat, List.reduceReplicate, String.reduceEq, h0, h1, h12, h13, hx]
          refine ⟨i + 1, _, GhostS.refl _, ?_, by omega⟩
          simp (disch := omega) only [go_sem, Nat.reduceEqDiff, Nat.reduceAdd, Nat.reduceMul, Nat.reduceSub, Nat.reduceLeDiff, ↓reduceIte, reduceCtorEq, Int.reduceAdd, Int.reduceSub, Int.reduceMul, Int.reduceNeg, Int.reduceToNat, List.reduceReplicate, String.reduceEq, h0, h1, h12, h13]
          (repeat' apply And.intro) <;> (try first | rfl | assumption | omega)
          exact take_eq_next he hlt hlm hx
        · simp (disch := omega) only [go_sem, Nat.reduceEqDiff, Nat.reduceAdd, Nat.reduceMul, Nat.reduceSub, Nat.reduceLeDiff, ↓reduceIte, reduceCtorEq, Int.reduceAdd, Int.reduceSub, Int.reduceMul, Int.reduceNeg, Int.reduceToNat, List.reduceReplicate, String.reduceEq, h0, h1, h12, h13, hx]
          refine DFin.refl ⟨?_, rfl⟩
          rw [decide_eq_false]
          intro e; subst e; exact hx rfl
      · simp (disch := omega) only [go_sem, Nat.reduceEqDiff, Nat.reduceAdd, Nat.reduceMul, Nat.reduceSub, Nat.reduceLeDiff, ↓reduceIte, reduceCtorEq, Int.reduceAdd, Int.reduceSub, Int.reduceMul, Int.reduceNeg, Int.reduceToNat, List.reduceReplicate, String.reduceEq, h0, h1, h12, h13]
        have : i = l.length := by omega
        subst this
        rw [List.take_length, c, List.take_length] at he
        subst he
        exact DFin.refl ⟨by simp, rfl⟩
  · have c' : ¬ (l.length : Int) = (m.length : Int) := by omega
    simp (disch := omega) only [go_sem, Nat.reduceEqDiff, Nat.reduceAdd, Nat.reduceMul, Nat.reduceSub, Nat.reduceLeDiff, ↓reduceIte, reduceCtorEq, Int.reduceAdd, Int.reduceSub, Int.reduceMul, Int.reduceNeg, Int.reduceToNat, List.reduceReplicate, String.reduceEq, c']
    refine DFin.refl ⟨?_, rfl⟩
    rw [decide_eq_false]
    intro e; subst e; exact c rfl
theorem equal_jb (G : Nat → DVal) (H : DHeap) (l m : List Jb) (hl : l.length ≤ 1099511627776) (hm : m.length ≤ 1099511627776) :
    DCalls Tryd.prog G 28 [.vslice (l.flatMap dJb) l.length, .vslice (m.flatMap dJb) m.length] H (DRet (.bool (decide (l = m))) H) := by
  refine dcalls_intro Tryd.func28 Tryd.call28 rfl (by kernel_rfl) ?_
  by_cases c : l.length = m.length
  · have c' : (l.length : Int) = (m.length : Int) := by omega
    simp (disch := omega) only [go_sem, Nat.reduceEqDiff, Nat.reduceAdd, Nat.reduceMul, Nat.reduceSub, Nat.reduceLeDiff, ↓reduceIte, reduceCtorEq, Int.reduceAdd, Int.reduceSub, Int.reduceMul, Int.reduceNeg, Int.reduceToNat, List.reduceReplicate, String.reduceEq]
    refine DLoop.run (fun (i : Nat) env heap => heap = H ∧ env 0 = .vslice (l.flatMap dJb) l.length ∧ env 1 = .vslice (m.flatMap dJb) m.length ∧ env 12 = dI l.length ∧ env 13 = dI i ∧ i ≤ l.length ∧ l.take i = m.take i) (fun i => l.length - i) 0 ?_ ?_
    · simp (disch := omega) only [go_sem, Nat.reduceEqDiff, Nat.reduceAdd, Nat.reduceMul, Nat.reduceSub, Nat.reduceLeDiff, ↓reduceIte, reduceCtorEq, Int.reduceAdd, Int.reduceSub, Int.reduceMul, Int.reduceNeg, Int.reduceToNat, List.reduceReplicate, String.reduceEq]
      (repeat' apply And.intro) <;> (try first | rfl | assumption | omega)
    · rintro i env heap ⟨rfl, h0, h1, h12, h13, hi, he⟩
      by_cases hlt : i < l.length
      · have hlm : i < m.length := by omega
        have hg1 := flat_el dJb_length l i hlt
        have hg2 := flat_el dJb_length m i hlm
        simp (disch := omega) only [go_sem, Nat.reduceEqDiff, Nat.reduceAdd, Nat.reduceMul, Nat.reduceSub, Nat.reduceLeDiff, ↓reduceIte, reduceCtorEq, Int.reduceAdd, Int.reduceSub, Int.reduceMul, Int.reduceNeg, Int.reduceToNat, List.reduceReplicate, String.reduceEq, h0, h1, h12, h13]
        refine dwp_draws (by kernel_rfl) (.take 0 (.take 1 (.take 2 (.take 3 (.take 4 (.take 5 (.take 6 (.take 7 (.take 8 .done))))))))) (by kernel_rfl) ?_
        simp (disch := omega) only [go_sem, Nat.reduceEqDiff, Nat.reduceAdd, Nat.reduceMul, Nat.reduceSub, Nat.reduceLeDiff, ↓reduceIte, reduceCtorEq, Int.reduceAdd, Int.reduceSub, Int.reduceMul, Int.reduceNeg, Int.reduceToNat, List.reduceReplicate, String.reduceEq, h0, h1, h12, h13, hg1, hg2, flat_len dJb_length, eqT_jb]
        by_cases hx : l[i] = m[i]
        · simp (disch := omega) only [go_sem, Nat.reduceEqDiff, Nat.reduceAdd, Nat.reduceMul, Nat.reduceSub, Nat.reduceLeDiff, ↓reduceIte, reduceCtorEq, Int.reduceAdd, Int.reduceSub, Int.reduceMul, Int.reduceNeg, Int.reduceToNat, List.reduceReplicate, String.reduceEq, h0, h1, h12, h13, hx]
          refine ⟨i + 1, _, GhostS.refl _, ?_, by omega⟩
          simp (disch := omega) only [go_sem, Nat.reduceEqDiff, Nat.reduceAdd, Nat.reduceMul, Nat.reduceSub, Nat.reduceLeDiff, ↓reduceIte, reduceCtorEq, Int.reduceAdd, Int.reduceSub, Int.reduceMul, Int.reduceNeg, Int.reduceToNat, List.reduceReplicate, String.reduceEq, h0, h1, h12, h13]
          (repeat' apply And.intro) <;> (try first | rfl | assumption | omega)
          exact take_eq_next he hlt hlm hx
        · simp (disch := omega) only [go_sem, Nat.reduceEqDiff, Nat.reduceAdd, Nat.reduceMul, Nat.reduceSub, Nat.reduceLeDiff, ↓reduceIte, reduceCtorEq, Int.reduceAdd, Int.reduceSub, Int.reduceMul, Int.reduceNeg, Int.reduceToNat, List.reduceReplicate, String.reduceEq, h0, h1, h12, h13, hx]
          refine DFin.refl ⟨?_, rfl⟩
          rw [decide_eq_false]
          intro e; subst e; exact hx rfl
      · simp (disch := omega) only [go_sem, Nat.reduceEqDiff, Nat.reduceAdd, Nat.reduceMul, Nat.reduceSub, Nat.reduceLeDiff, ↓reduceIte, reduceCtorEq, Int.reduceAdd, Int.reduceSub, Int.reduceMul, Int.reduceNeg, Int.reduceToNat, List.reduceReplicate, String.reduceEq, h0, h1, h12, h13]
        have : i = l.length := by omega
        subst this
        rw [List.take_length, c, List.take_length] at he
        subst he
        exact DFin.refl ⟨by simp, rfl⟩
  · have c' : ¬ (l.length : Int) = (m.length : Int) := by omega
    simp (disch := omega) only [go_sem, Nat.reduceEqDiff, Nat.reduceAdd, Nat.reduceMul, Nat.reduceSub, Nat.reduceLeDiff, ↓reduceIte, reduceCtorEq, Int.reduceAdd, Int.reduceSub, Int.reduceMul, Int.reduceNeg, Int.reduceToNat, List.reduceReplicate, String.reduceEq, c']
    refine DFin.refl ⟨?_, rfl⟩
    rw [decide_eq_false]
    intro e; subst e; exact c rfl
theorem equal_int (G : Nat → DVal) (H : DHeap) (l m : List Int) (hl : l.length ≤ 1099511627776) (hm : m.length ≤ 1099511627776) :
    DCalls Tryd.prog G 24 [.vslice (l.map dI) l.length, .vslice (m.map dI) m.length] H (DRet (.bool (decide (l = m))) H) := by
  refine dcalls_intro Tryd.func24 Tryd.call24 rfl (by kernel_rfl) ?_
  by_cases c : l.length = m.length
  · have c' : (l.length : Int) = (m.length : Int) := by omega
    simp (disch := omega) only [go_sem, Nat.reduceEqDiff, Nat.reduceAdd, Nat.reduceMul, Nat.reduceSub, Nat.reduceLeDiff, ↓reduceIte, reduceCtorEq, Int.reduceAdd, Int.reduceSub, Int.reduceMul, Int.reduceNeg, Int.reduceToNat, List.reduceReplicate, String.reduceEq]
    refine DLoop.run (fun (i : Nat) env heap => heap = H ∧ env 0 = .vslice (l.map dI) l.length ∧ env 1 = .vslice (m.map dI) m.length ∧ env 12 = dI l.length ∧ env 13 = dI i ∧ i ≤ l.length ∧ l.take i = m.take i) (fun i => l.length - i) 0 ?_ ?_
    · simp (disch := omega) only [go_sem, Nat.reduceEqDiff, Nat.reduceAdd, Nat.reduceMul, Nat.reduceSub, Nat.reduceLeDiff, ↓reduceIte, reduceCtorEq, Int.reduceAdd, Int.reduceSub, Int.reduceMul, Int.reduceNeg, Int.reduceToNat, List.reduceReplicate, String.reduceEq]
      (repeat' apply And.intro) <;> (try first | rfl | assumption | omega)
    · rintro i env heap ⟨rfl, h0, h1, h12, h13, hi, he⟩
      by_cases hlt : i < l.length
      · have hlm : i < m.length := by omega
        have hg1 : (l.map dI)[i]? = some (dI l[i]) := by simp [hlt]
        have hg2 : (m.map dI)[i]? = some (dI m[i]) := by simp [hlm]
        simp (disch := omega) only [go_sem, Nat.reduceEqDiff, Nat.reduceAdd, Nat.reduceMul, Nat.reduceSub, Nat.reduceLeDiff, ↓reduceIte, reduceCtorEq, Int.reduceAdd, Int.reduceSub, Int.reduceMul, Int.reduceNeg, Int.reduceToNat, List.reduceReplicate, String.reduceEq, h0, h1, h12, h13]
        refine dwp_draws (by kernel_rfl) (.take 0 (.take 1 (.take 2 (.take 3 (.take 4 (.take 5 (.take 6 (.take 7 (.take 8 .done))))))))) (by kernel_rfl) ?_
        simp (disch := omega) only [go_sem, Nat.reduceEqDiff, Nat.reduceAdd, Nat.reduceMul, Nat.reduceSub, Nat.reduceLeDiff, ↓reduceIte, reduceCtorEq, Int.reduceAdd, Int.reduceSub, Int.reduceMul, Int.reduceNeg, Int.reduceToNat, List.reduceReplicate, String.reduceEq, h0, h1, h12, h13, hg1, hg2, hg2]
        by_cases hx : l[i] = m[i]
        · simp (disch := omega) only [go_sem, Nat.reduceEqDiff, Nat.reduceAdd, Nat.reduceMul, Nat.reduceSub, Nat.reduceLeDiff, ↓reduceIte, reduceCtorEq, Int.reduceAdd, Int.reduceSub, Int.reduceMul, Int.reduceNeg, Int.reduceToNat, List.reduceReplicate, String.reduceEq, h0, h1, h12, h13, hx]
          refine ⟨i + 1, _, GhostS.refl _, ?_, by omega⟩
          simp (disch := omega) only [go_sem, Nat.reduceEqDiff, Nat.reduceAdd, Nat.reduceMul, Nat.reduceSub, Nat.reduceLeDiff, ↓reduceIte, reduceCtorEq, Int.reduceAdd, Int.reduceSub, Int.reduceMul, Int.reduceNeg, Int.reduceToNat, List.reduceReplicate, String.reduceEq, h0, h1, h12, h13]
          (repeat' apply And.intro) <;> (try first | rfl | assumption | omega)
          exact take_eq_next he hlt hlm hx
        · simp (disch := omega) only [go_sem, Nat.reduceEqDiff, Nat.reduceAdd, Nat.reduceMul, Nat.reduceSub, Nat.reduceLeDiff, ↓reduceIte, reduceCtorEq, Int.reduceAdd, Int.reduceSub, Int.reduceMul, Int.reduceNeg, Int.reduceToNat, List.reduceReplicate, String.reduceEq, h0, h1, h12, h13, hx]
          refine DFin.refl ⟨?_, rfl⟩
          rw [decide_eq_false]
          intro e; subst e; exact hx rfl
      · simp (disch := omega) only [go_sem, Nat.reduceEqDiff, Nat.reduceAdd, Nat.reduceMul, Nat.reduceSub, Nat.reduceLeDiff, ↓reduceIte, reduceCtorEq, Int.reduceAdd, Int.reduceSub, Int.reduceMul, Int.reduceNeg, Int.reduceToNat, List.reduceReplicate, String.reduceEq, h0, h1, h12, h13]
        have : i = l.length := by omega
        subst this
        rw [List.take_length, c, List.take_length] at he
        subst he
        exact DFin.refl ⟨by simp, rfl⟩
  · have c' : ¬ (l.length : Int) = (m.length : Int) := by omega
    simp (disch := omega) only [go_sem, Nat.reduceEqDiff, Nat.reduceAdd, Nat.reduceMul, Nat.reduceSub, Nat.reduceLeDiff, ↓reduceIte, reduceCtorEq, Int.reduceAdd, Int.reduceSub, Int.reduceMul, Int.reduceNeg, Int.reduceToNat, List.reduceReplicate, String.reduceEq, c']
    refine DFin.refl ⟨?_, rfl⟩
    rw [decide_eq_false]
    intro e; subst e; exact c rfl
end Go.Dl

-- Rows of the call's own: a list of lists of ints, each in a block of its own.
namespace Go.Dl
open Go

/-- v is nil (an empty list), or a slice of the call's own with the ints l, whatever lies ahead of and behind it in its block. -/
def OwnV (e : TypeId) (H : DHeap) (l : List Int) (v : DVal) (H' : DHeap) : Prop :=
  (l = [] ∧ v = .nilSlice ∧ H' = H) ∨ ∃ r pre lo rest, H r = none ∧ v = .oslice 1 r pre.length l.length lo ∧ l.length + rest.length = lo ∧ H' = upd H r (some (.cells (pre ++ (l.map dI ++ rest)) e))

def OwnRows (e : TypeId) (H : DHeap) : List (List Int) → List DVal → DHeap → Prop
  | [], vs, H' => vs = [] ∧ H' = H
  | l :: q, vs, H' => ∃ v vs' H1, vs = v :: vs' ∧ OwnRows e H q vs' H1 ∧ OwnV e H1 l v H'

/-- Two slices of the call's own, told in the other order. -/
theorem OwnV.swap {e : TypeId} {H H1 H2 : DHeap} {l m : List Int} {v u : DVal} (h : OwnV e H l v H1) (k : OwnV e H1 m u H2) : ∃ H1', OwnV e H m u H1' ∧ OwnV e H1' l v H2 := by
  rcases h with ⟨rfl, rfl, rfl⟩ | ⟨r, pre, lo, rest, hr, rfl, hlo, rfl⟩
  · exact ⟨H2, k, .inl ⟨rfl, rfl, rfl⟩⟩
  · rcases k with ⟨rfl, rfl, rfl⟩ | ⟨r', pre', lo', rest', hr', rfl, hlo', rfl⟩
    · exact ⟨H, .inl ⟨rfl, rfl, rfl⟩, .inr ⟨r, pre, lo, rest, hr, rfl, hlo, rfl⟩⟩
    · rw [upd_eq_none] at hr'
      exact ⟨_, .inr ⟨r', pre', lo', rest', hr'.2.2, rfl, hlo', rfl⟩, .inr ⟨r, pre, lo, rest, by simp [upd, hr', hr], rfl, hlo, upd_swap hr'.1 _ _ _⟩⟩

theorem OwnRows.len {e : TypeId} {H : DHeap} : ∀ {q : List (List Int)} {vs : List DVal} {H' : DHeap}, OwnRows e H q vs H' → vs.length = q.length
  | [], _, _, h => by rw [h.1]; rfl
  | l :: q, vs, H', h => by
    obtain ⟨v, vs', H1, rfl, h1, _⟩ := h
    simp [h1.len]

/-- **ROW i IS TAKEN OUT**, and whatever row is put in its place. -/
theorem OwnRows.focus {e : TypeId} {H : DHeap} : ∀ {q : List (List Int)} {vs : List DVal} {H' : DHeap}, OwnRows e H q vs H' → ∀ (i : Nat) (hi : i < q.length), ∃ v H1, vs[i]? = some v ∧ OwnV e H1 q[i] v H' ∧
    ∀ l' v' H2, OwnV e H1 l' v' H2 → OwnRows e H (q.set i l') (vs.set i v') H2
  | l :: q, vs, H', h, 0, hi => by
    obtain ⟨v, vs', H1, rfl, h1, h2⟩ := h
    exact ⟨v, H1, rfl, h2, fun l' v' H2 k => ⟨v', vs', H1, rfl, h1, k⟩⟩
  | l :: q, vs, H', h, i + 1, hi => by
    obtain ⟨v, vs', H1, rfl, h1, h2⟩ := h
    obtain ⟨u, H3, g1, g2, g3⟩ := h1.focus i (by simpa using hi)
    obtain ⟨H4, k1, k2⟩ := g2.swap h2
    refine ⟨u, H4, by simpa using g1, k2, fun l' v' H2 k => ?_⟩
    obtain ⟨H5, m1, m2⟩ := k1.swap k
    exact ⟨v, vs'.set i v', H5, rfl, g3 l' v' H5 m1, m2⟩

/-- Another block beside it. -/
theorem OwnV.frame {e : TypeId} {H H1 : DHeap} {l : List Int} {v : DVal} (h : OwnV e H l v H1) {r : Nat} (hr : H1 r = none) (o : DObj) : OwnV e (upd H r (some o)) l v (upd H1 r (some o)) ∧ H r = none := by
  rcases h with ⟨rfl, rfl, rfl⟩ | ⟨r', pre, lo, rest, hr', rfl, hlo, rfl⟩
  · exact ⟨.inl ⟨rfl, rfl, rfl⟩, hr⟩
  · rw [upd_eq_none] at hr
    exact ⟨.inr ⟨r', pre, lo, rest, by simp [upd, hr, hr'], rfl, hlo, upd_swap hr.1 _ _ _⟩, hr.2.2⟩
theorem OwnV.unframe {e : TypeId} {H H1 : DHeap} {l : List Int} {v : DVal} {r : Nat} {o : DObj} (h : OwnV e (upd H r (some o)) l v H1) (hr : H r = none) : OwnV e H l v (upd H1 r none) := by
  rcases h with ⟨rfl, rfl, rfl⟩ | ⟨r', pre, lo, rest, hr', rfl, hlo, rfl⟩
  · exact .inl ⟨rfl, rfl, upd_none_self hr _⟩
  · rw [upd_eq_none] at hr'
    exact .inr ⟨r', pre, lo, rest, hr'.2.2, rfl, hlo, by rw [upd_swap hr'.2.1, upd_none_self hr]⟩
theorem OwnRows.frame {e : TypeId} {H : DHeap} : ∀ {q : List (List Int)} {vs : List DVal} {H1 : DHeap}, OwnRows e H q vs H1 → ∀ {r : Nat}, H1 r = none → ∀ (o : DObj), OwnRows e (upd H r (some o)) q vs (upd H1 r (some o)) ∧ H r = none
  | [], vs, H1, h, r, hr, o => by
    obtain ⟨rfl, rfl⟩ := h
    exact ⟨⟨rfl, rfl⟩, hr⟩
  | l :: q, vs, H1, h, r, hr, o => by
    obtain ⟨v, vs', H2, rfl, h1, h2⟩ := h
    obtain ⟨k1, k2⟩ := h2.frame hr o
    obtain ⟨m1, m2⟩ := h1.frame k2 o
    exact ⟨⟨v, vs', _, rfl, m1, k1⟩, m2⟩
theorem OwnRows.unframe {e : TypeId} {H : DHeap} : ∀ {q : List (List Int)} {vs : List DVal} {H1 : DHeap} {r : Nat} {o : DObj}, OwnRows e (upd H r (some o)) q vs H1 → H r = none → ∃ H2, OwnRows e H q vs H2 ∧ H1 = upd H2 r (some o) ∧ H2 r = none
  | [], vs, H1, r, o, h, hr => by
    obtain ⟨rfl, rfl⟩ := h
    exact ⟨H, ⟨rfl, rfl⟩, rfl, hr⟩
  | l :: q, vs, H1, r, o, h, hr => by
    obtain ⟨v, vs', H2, rfl, h1, h2⟩ := h
    obtain ⟨H3, k1, rfl, k3⟩ := h1.unframe hr
    refine ⟨upd H1 r none, ⟨v, vs', H3, rfl, k1, h2.unframe k3⟩, ?_, by simp [upd]⟩
    have hro : H1 r = some o := by
      rcases h2 with ⟨_, _, rfl⟩ | ⟨r', pre, lo, rest, hr', _, _, rfl⟩
      · simp [upd]
      · rw [upd_eq_none] at hr'
        simp [upd, hr'.2.1]
    rw [upd_upd]
    exact (upd_self hro).symm

/-- **append of one int** to such a row. -/
theorem OwnV.append1 {e : TypeId} {H H0 : DHeap} {bytes : Nat} {l : List Int} {v : DVal} {t : Int} {dst : Option Nat} {K : DK} {env : Nat → DVal} (hv : OwnV e H l v H0) (hb : (l.length + 1) * bytes ≤ 35184372088832)
    (hK : ∀ v' H', OwnV e H (l ++ [t]) v' H' → K ⟨updO env dst v', H'⟩) : dAppendTo e 1 bytes 1 [dI t] dst v K ⟨env, H0⟩ := by
  rcases hv with ⟨rfl, rfl, rfl⟩ | ⟨r, pre, lo, rest, hr, rfl, hlo, rfl⟩
  · simp only [dAppendTo]
    refine ⟨fun h => by omega, fun _ => ⟨by simpa using hb, fun r hr => hK _ _ (.inr ⟨r, [], 1, [], hr, rfl, rfl, rfl⟩)⟩⟩
  · simp only [dAppendTo, true_and]
    rw [upd_same]
    simp only [dAppendO, true_and, Nat.mul_one, upd_upd]
    refine ⟨fun h1 => ⟨by simp; omega, ?_⟩, fun h1 => ⟨by simp, hb, fun r' pre' hr' _ => ?_⟩⟩
    · cases rest with
      | nil => simp at hlo; omega
      | cons x rest =>
        have hsp : splice (pre ++ (l.map dI ++ x :: rest)) (pre.length + l.length) [dI t] = pre ++ ((l ++ [t]).map dI ++ rest) := by
          have h2 : pre ++ (l.map dI ++ x :: rest) = (pre ++ l.map dI) ++ (x :: rest) := by simp
          have h3 : (pre ++ l.map dI).length = pre.length + l.length := by simp
          rw [h2, ← h3]
          unfold splice
          rw [List.take_left, List.drop_append, List.drop_of_length_le (by simp)]
          simp
        rw [hsp]
        refine hK _ _ (.inr ⟨r, pre, lo, rest, hr, by simp, by simp at hlo ⊢; omega, rfl⟩)
    · rw [upd_self hr] at hr' ⊢
      have hrest : rest = [] := List.length_eq_zero_iff.1 (by omega)
      subst hrest
      refine hK _ _ (.inr ⟨r', pre', l.length + 1, [], hr', by simp, by simp, ?_⟩)
      simp [take_map_len]

theorem OwnRows.snoc {e : TypeId} {H : DHeap} : ∀ {q : List (List Int)} {vs : List DVal} {H1 H2 : DHeap} {l : List Int} {v : DVal}, OwnRows e H q vs H1 → OwnV e H1 l v H2 → OwnRows e H (q ++ [l]) (vs ++ [v]) H2
  | [], vs, H1, H2, l, v, h, k => by
    obtain ⟨rfl, rfl⟩ := h
    exact ⟨v, [], _, rfl, ⟨rfl, rfl⟩, k⟩
  | m :: q, vs, H1, H2, l, v, h, k => by
    obtain ⟨u, vs', H3, rfl, h1, h2⟩ := h
    obtain ⟨H4, k1, k2⟩ := h2.swap k
    exact ⟨u, vs' ++ [v], H4, rfl, h1.snoc k1, k2⟩

/-- A row that lay below comes on top. -/
theorem OwnRows.above {e : TypeId} {H H0 : DHeap} {l : List Int} {v : DVal} (h0 : OwnV e H l v H0) : ∀ {q : List (List Int)} {vs : List DVal} {H1 : DHeap}, OwnRows e H0 q vs H1 → ∃ H0', OwnRows e H q vs H0' ∧ OwnV e H0' l v H1
  | [], vs, H1, h => by
    obtain ⟨rfl, rfl⟩ := h
    exact ⟨H, ⟨rfl, rfl⟩, h0⟩
  | m :: q, vs, H1, h => by
    obtain ⟨u, vs', H3, rfl, h1, h2⟩ := h
    obtain ⟨H4, k1, k2⟩ := h1.above h0
    obtain ⟨H5, m1, m2⟩ := k2.swap h2
    exact ⟨H5, ⟨u, vs', H4, rfl, k1, m1⟩, m2⟩

/-- The row below is let go. -/
theorem OwnV.drop {e : TypeId} {H H0 H1 : DHeap} {l m : List Int} {u v : DVal} (h : OwnV e H m u H0) (k : OwnV e H0 l v H1) : ∃ H2, OwnV e H l v H2 ∧ ∀ r o, H2 r = some o → H1 r = some o := by
  obtain ⟨H2, k1, k2⟩ := h.swap k
  refine ⟨H2, k1, fun r o ho => ?_⟩
  rcases k2 with ⟨_, _, rfl⟩ | ⟨r', pre, lo, rest, hr', _, _, rfl⟩
  · exact ho
  · have : r ≠ r' := fun e => by rw [e, hr'] at ho; cases ho
    simp [upd, this, ho]

/-- A list of rows of the call's own, in a slice of its own. -/
def OwnLL (e e' : TypeId) (H : DHeap) (q : List (List Int)) (v : DVal) (H' : DHeap) : Prop :=
  (q = [] ∧ v = .nilSlice ∧ H' = H) ∨ ∃ ro vs H1, OwnRows e H q vs H1 ∧ H1 ro = none ∧ v = .oslice 1 ro 0 q.length q.length ∧ H' = upd H1 ro (some (.cells vs e'))

theorem OwnA.ownV {e : TypeId} {H H0 : DHeap} {l : List Int} {v : DVal} (h : OwnA H e 1 l.length (l.map dI) v H0) : OwnV e H l v H0 := by
  rcases h with ⟨a, b, rfl, rfl⟩ | ⟨r, hr, hl, rfl, rfl⟩
  · exact .inl ⟨List.length_eq_zero_iff.1 a, rfl, rfl⟩
  · exact .inr ⟨r, [], l.length, [], hr, rfl, by simp, by simp⟩

/-- Own rows seen as memory that lasts. -/
theorem OwnV.ghost {e : TypeId} {H H0 : DHeap} {l : List Int} {v : DVal} (h : OwnV e H l v H0) : GhostE H0 v H (dIs l) := by
  rcases h with ⟨rfl, rfl, rfl⟩ | ⟨r, pre, lo, rest, hr, rfl, hlo, rfl⟩
  · exact fun w hw => ⟨hw, fun _ h => h, fun x hx => DLe.nil _ _ _ hx⟩
  · have := GhostE.fz (v := .oslice 1 r pre.length l.length lo) (upd_same H r (some (.cells (pre ++ (l.map dI ++ rest)) e)))
    rw [upd_none_self hr] at this
    simp only [Dl.fz, if_pos, List.drop_left, Nat.mul_one] at this
    rw [List.take_append_of_le_length (by simp), List.take_of_length_le (by simp)] at this
    exact this

-- loose values: none points into memory that lasts -------------------------------------------------------------------------------
/-- Whether this value describes a model's value does not hang on which blocks are the call's own. -/
def loose : DVal → Bool
  | .bool _ | .int _ _ | .str _ | .nilPtr | .nilSlice | .nilMap | .nilFunc | .nilIface => true
  | .optr _ _ | .oslice _ _ _ _ _ | .omap _ => true
  | .tuple l => looses l
  | .agg l => looses l
  | _ => false
where looses : List DVal → Bool
  | [] => true
  | d :: ds => loose d && looses ds

mutual
theorem loose_rel {w : World} {H H' : DHeap} : ∀ (d : DVal) (v : Value), loose d = true → Rel w H d v → Rel w H' d v
  | .tuple l, v, hp, h => by
    simp only [loose] at hp
    simp only [Rel] at h ⊢
    obtain ⟨x, rfl, h1⟩ := h
    exact ⟨x, rfl, looses_rel _ _ hp h1⟩
  | .agg l, v, hp, h => by
    simp only [loose] at hp
    simp only [Rel] at h ⊢
    obtain ⟨x, rfl, h1⟩ := h
    exact ⟨x, rfl, looses_rel _ _ hp h1⟩
  | .bool x, v, hp, h => by simpa [Rel] using h
  | .int x y, v, hp, h => by simpa [Rel] using h
  | .str x, v, hp, h => by simpa [Rel] using h
  | .nilPtr, v, hp, h => by simpa [Rel] using h
  | .nilSlice, v, hp, h => by simpa [Rel] using h
  | .nilMap, v, hp, h => by simpa [Rel] using h
  | .nilFunc, v, hp, h => by simpa [Rel] using h
  | .nilIface, v, hp, h => by simpa [Rel] using h
  | .optr _ _, v, hp, h => by simpa [Rel] using h
  | .oslice _ _ _ _ _, v, hp, h => by simpa [Rel] using h
  | .omap _, v, hp, h => by simpa [Rel] using h
  | .raw _, _, hp, _ => by cases hp
  | .vptr _ _, _, hp, _ => by cases hp
  | .vslice _ _, _, hp, _ => by cases hp
  | .func _ _ _, _, hp, _ => by cases hp
  | .iface _ _, _, hp, _ => by cases hp
theorem looses_rel {w : World} {H H' : DHeap} : ∀ (ds : List DVal) (vs : List Value), loose.looses ds = true → RelL w H ds vs → RelL w H' ds vs
  | [], _, _, h => by simpa [RelL] using h
  | d :: ds, vs, hp, h => by
    simp only [loose.looses, Bool.and_eq_true] at hp
    simp only [RelL] at h ⊢
    obtain ⟨y, ys, rfl, h1, h2⟩ := h
    exact ⟨y, ys, rfl, loose_rel d y hp.1 h1, looses_rel ds ys hp.2 h2⟩
end
theorem looses_iff {l : List DVal} : loose.looses l = true ↔ ∀ d ∈ l, loose d = true := by
  induction l with
  | nil => simp [loose.looses]
  | cons d l ih => simp [loose.looses, ih]
theorem looses_append {l m : List DVal} : loose.looses (l ++ m) = true ↔ loose.looses l = true ∧ loose.looses m = true := by
  simp only [looses_iff, List.mem_append]
  exact ⟨fun h => ⟨fun d hd => h d (.inl hd), fun d hd => h d (.inr hd)⟩, fun h d hd => hd.elim (h.1 d) (h.2 d)⟩
theorem looses_ints (l : List Int) : loose.looses (l.map dI) = true := by
  rw [looses_iff]; intro d hd
  obtain ⟨x, _, rfl⟩ := List.mem_map.1 hd
  rfl
def looseO : DObj → Bool
  | .cells cs _ => loose.looses cs
  | .map es => es.all fun p => loose p.1 && loose p.2
  | .loop _ _ _ => false
  | .iter _ _ => true
/-- What H' has beyond H is loose. -/
def Loose (H H' : DHeap) : Prop := ∀ r o, H' r = some o → H r = some o ∨ looseO o = true
theorem Loose.refl (H : DHeap) : Loose H H := fun _ _ h => .inl h
theorem Loose.trans {H H' H'' : DHeap} (h : Loose H H') (k : Loose H' H'') : Loose H H'' := fun r o ho => by
  rcases k r o ho with h1 | h1
  · exact h r o h1
  · exact .inr h1
theorem Loose.sub {H H' H'' : DHeap} (h : Loose H H') (k : ∀ r o, H'' r = some o → H' r = some o) : Loose H H'' := fun r o ho => h r o (k r o ho)
theorem Loose.upd {H H' : DHeap} (h : Loose H H') {r : Nat} {o : DObj} (ho : looseO o = true) : Loose H (upd H' r (some o)) := fun b p hb => by
  simp only [Dl.upd] at hb
  split at hb
  · cases hb; exact .inr ho
  · exact h b p hb
theorem Loose.unframe {H H' : DHeap} {r : Nat} {o : DObj} (h : Loose (Dl.upd H r (some o)) H') : Loose H (Dl.upd H' r none) := fun b p hb => by
  simp only [Dl.upd] at hb
  split at hb
  · cases hb
  · rename_i hne
    rcases h b p hb with h1 | h1
    · simp only [Dl.upd, if_neg hne] at h1; exact .inl h1
    · exact .inr h1
theorem OwnA.loose {e : TypeId} {H H0 : DHeap} {n : Nat} {cs : List DVal} {v : DVal} (h : OwnA H e 1 n cs v H0) (hc : loose.looses cs = true) : Loose H H0 := by
  rcases h with ⟨_, _, _, rfl⟩ | ⟨r, hr, hl, rfl, rfl⟩
  · exact .refl _
  · exact (Loose.refl H).upd hc
theorem OwnV.one_loose {e : TypeId} {H H1 : DHeap} {l : List Int} {v : DVal} (h : OwnV e H l v H1) : Dl.loose v = true := by
  rcases h with ⟨_, rfl, _⟩ | ⟨_, _, _, _, _, rfl, _⟩ <;> rfl
theorem OwnRows.looses {e : TypeId} {H : DHeap} : ∀ {q : List (List Int)} {vs : List DVal} {H1 : DHeap}, OwnRows e H q vs H1 → loose.looses vs = true
  | [], _, _, h => by rw [h.1]; rfl
  | l :: q, vs, H1, h => by
    obtain ⟨v, vs', H2, rfl, h1, h2⟩ := h
    simp only [loose.looses, h2.one_loose, h1.looses, Bool.and_self]
end Go.Dl

-- THE DATA LEVEL, PART K: the frame of a call: what a callee makes with no memory of the caller's at hand, it makes beside it.
namespace Go.Dl
open Go
set_option maxRecDepth 10000

theorem DCalls.frame {P : Program} {G : Nat → DVal} {f : FuncId} {args args' : List DVal} {H : DHeap} {R : DEnd → DHeap → Prop} (h : DCalls P G f args' h0 R)
    (hb : ∀ w vs, SimHeap w H → RelL w H args vs → RelL w h0 args' vs) (hR : ∀ e X, R e X → ∃ v, e = .ret v ∧ loose v = true ∧ Loose h0 X) : DCalls P G f args H (fun e H' => ∃ X, R e X ∧ Disj H X ∧ H' = over H X) := by
  refine ⟨h.1, fun vs w hv hH hg => ?_⟩
  have hg0 : GOk G w h0 := fun g => Rel.lasts (lasts_h0 H w) _ _ (hg g)
  refine (h.2 vs w (hb w vs hH hv) (fun r o hr => by cases hr) hg0).mono fun x w' ⟨e', X, r, k1, k2, k3⟩ => ?_
  obtain ⟨v, rfl, hl, hX⟩ := hR _ _ r
  have hown : ∀ b, X b ≠ none → w.heap.size ≤ b := fun b hb => (k3.own b hb).resolve_left (fun k => k rfl)
  have hd : Disj H X := fun b hb => by
    cases e1 : H b with
    | none => rfl
    | some o => have := hH.lt (r := b) (by simp [e1]); have := hown b hb; omega
  have hE : Ext H w (over H X) w' := ⟨k3.os, k3.tape, k3.output, k3.size, fun b hb _ => k3.block b hb rfl, fun b hb => by
    by_cases e1 : X b = none
    · rw [over_hi e1] at hb; exact .inl hb
    · exact .inr (hown b e1), k3.keep, k3.fz⟩
  refine ⟨.ret v, over H X, ⟨X, r, hd, rfl⟩, ?_, ?_, hE⟩
  · cases k1 with
    | ret d x hx => exact .ret _ _ (loose_rel _ _ hl hx)
  · intro b o ho
    cases e1 : X b with
    | none =>
      rw [over_hi e1] at ho
      rw [k3.block b (hH.lt (by simp [ho])) rfl]
      exact (hH b o ho).lasts hE.lasts
    | some o' =>
      rw [over_x e1] at ho; cases ho
      have hlo : looseO o = true := (hX b o e1).resolve_left (fun k => by cases k)
      have hr := k2 b o e1
      cases o with
      | cells cs e =>
        obtain ⟨xs, c, fz', h1, h2, h3, h4⟩ := hr
        exact ⟨xs, c, fz', h1, h2, looses_rel _ _ hlo h3, h4⟩
      | loop _ _ _ => cases hlo
      | iter _ _ => exact hr
      | map es =>
        obtain ⟨ms, c, h1, h2⟩ := hr
        refine ⟨ms, c, h1, ?_⟩
        simp only [looseO, List.all_eq_true, Bool.and_eq_true] at hlo
        clear h1 e1
        generalize ms.toList = l at h2
        induction es generalizing l with
        | nil => exact h2
        | cons p es ih =>
          obtain ⟨m, ms', rfl, g1, g2, g3⟩ := h2
          exact ⟨m, ms', rfl, loose_rel _ _ (hlo p (by simp)).1 g1, loose_rel _ _ (hlo p (by simp)).2 g2, ih (fun q hq => hlo q (List.mem_cons_of_mem _ hq)) _ g3⟩

/-- A call that only looks, and whose result points to nothing. -/
theorem DCalls.lent {P : Program} {G : Nat → DVal} {f : FuncId} {args args' : List DVal} {H : DHeap} {v : DVal} (h : DCalls P G f args' h0 (DRet v h0))
    (hb : ∀ w vs, SimHeap w H → RelL w H args vs → RelL w h0 args' vs) (hv : loose v = true) : DCalls P G f args H (DRet v H) :=
  (h.frame hb (fun e X hr => ⟨v, hr.1, hv, by rw [hr.2]; exact .refl _⟩)).mono fun e H' ⟨X, hr, _, hH⟩ => ⟨hr.1, by rw [hH, hr.2, over_h0]⟩


/-- A slice of the call's own, lent to a callee that only looks. -/
theorem OwnJ.lend {H H' : DHeap} {e : TypeId} {size n : Nat} {cs : List DVal} {v : DVal} (h : OwnJ H e size n cs v H') (ds : List DVal) : ∀ w vs, SimHeap w H' → RelL w H' (v :: ds) vs → RelL w h0 (.vslice cs n :: ds) vs := by
  intro w vs hw hv
  simp only [RelL] at hv ⊢
  obtain ⟨y, ys, rfl, h1, h2⟩ := hv
  obtain ⟨_, _, k3⟩ := h.ghost w hw
  exact ⟨y, ys, rfl, Rel.lasts (lasts_h0 H w) _ _ (k3 y h1), RelL.lasts (lasts_h0 H' w) _ _ h2⟩
end Go.Dl
