/- The data level and the contracts of the functions that are reached (part 8). -/
import Derived.Lib.AppendIntMem
import Derived.Lib.IndexLaws
import Derived.Shelf.Strings.Builder1
import Derived.Lib.Fields
import Derived.Test.YtbefgogblpebfaaDoorQg
set_option linter.unusedSimpArgs false
set_option linter.unusedVariables false
-- Library functions at the data level: FormatInt, IndexByte, HasSuffix, Lines.
namespace Go.Dl
open Go Go.Proofs Go.RowKit
set_option maxRecDepth 10000
attribute [go_sem] List.getElem?_toArray List.getElem?_cons_zero List.getElem?_cons_succ List.append_eq

theorem Quiet.grow (w : World) (k : Nat) (os : Array Obj) : Quiet w (Sort.grow (w.drewN k) os) :=
  ⟨rfl, rfl, rfl, Lib.size_grow w k os, fun b hb => Lib.heap_grow_old w k os b hb⟩
theorem tab_is {P : Program} {w : World} {H : DHeap} {G : Nat → DVal} {g : Nat} {name : String} {k : IntKind} {zs : List Int} (hg : P.globalNamed name = some g) (h : GOk G w H) (e : G g = .vptr (zs.map fun z => .int k z) 0) : Lib.TabIs P w name k zs := by
  have hx := h.exact g _ e
  have hr := h.rel g
  rw [e] at hr
  have hc := tab_cells hg hr rfl
  unfold Lib.TabIs World.var?
  rw [hg]
  simp only [Option.bind_some]
  cases ho : w.heap[g]? with
  | none => rw [ho] at hx; cases hx
  | some o =>
    cases o with
    | cells c t fz =>
      rw [ho] at hx
      simp only [csize, Option.some.injEq, List.length_map] at hx
      simp only [Option.some.injEq]
      apply Array.ext_getElem?
      intro i
      by_cases hi : i < zs.length
      · have := hc i zs[i] (List.getElem?_eq_getElem hi)
        simp only [World.cell?, ho] at this
        simp [hi]
        simpa using this
      · rw [Array.getElem?_eq_none (by omega), Array.getElem?_eq_none (by simp; omega)]
    | _ => rw [ho] at hx; cases hx

section
variable {G : Nat → DVal} {H : DHeap}
def dPw : List DVal := Lib.pow10Tab.map fun z => .int .u64 z
theorem formatInt_spec (hG : G 3 = .vptr dPw 0) (n : Int) (h : I64 n) :
    DCalls Tryd.prog G 53 [dI n, dI 10] H (DRet (.str (Lib.itoa n)) H) := by
  refine DCalls.quiet Tryd.call53 fun vs w hv hH hg => ?_
  simp only [RelL, Rel] at hv
  obtain ⟨_, _, rfl, rfl, _, _, rfl, rfl, rfl⟩ := hv
  refine (Tryd.strconv_FormatInt_10 n h.1 h.2 w (tab_is (show Tryd.prog.globalNamed "internal/strconv.uint64pow10" = some 3 by kernel_rfl) hg hG)).mono fun e w' ⟨he, k, os, hw⟩ => ?_
  subst he; subst hw
  exact ⟨.grow _ _ _, _, rfl, .ret _ _ (by simp [Rel])⟩
theorem indexByte_spec (s : List UInt8) (c : UInt8) : DCalls Tryd.prog G 82 [.str s, .int .u8 c.toNat] H (DRet (dI (Lib.indexByte s c)) H) := by
  refine DCalls.quiet Tryd.call82 fun vs w hv hH hg => ?_
  simp only [RelL, Rel] at hv
  obtain ⟨_, _, rfl, rfl, _, _, rfl, rfl, rfl⟩ := hv
  refine (Tryd.strings_IndexByte ⟨⟨s⟩⟩ c.toNat w).mono fun e w' ⟨he, hw⟩ => ?_
  subst he; subst hw
  exact ⟨.refl _, _, rfl, .ret _ _ (by simp [Rel])⟩
theorem hasSuffix_spec (s p : List UInt8) (hs : s.length ≤ 9223372036854775807) : DCalls Tryd.prog G 56 [.str s, .str p] H (DRet (.bool (Lib.hasSuffix s p)) H) := by
  refine DCalls.quiet Tryd.call56 fun vs w hv hH hg => ?_
  simp only [RelL, Rel] at hv
  obtain ⟨_, _, rfl, rfl, _, _, rfl, rfl, rfl⟩ := hv
  refine (Tryd.strings_HasSuffix ⟨⟨s⟩⟩ ⟨⟨p⟩⟩ w hs).mono fun e w' ⟨he, hw⟩ => ?_
  subst he; subst hw
  exact ⟨.refl _, _, rfl, .ret _ _ (by simp [Rel])⟩
end

/-- The lines of a text, with their line feeds. -/
def linesG (s : List UInt8) : List (List UInt8) := (linesR s []).1.map (· ++ [10]) ++ (if (linesR s []).2 = [] then [] else [(linesR s []).2])
theorem linesG_nil : linesG [] = [] := rfl
theorem linesG_no {t : List UInt8} (h : (10 : UInt8) ∉ t) (hn : t ≠ []) : linesG t = [t] := by
  rw [linesG, linesR_no t h]; simp [hn]
theorem linesG_at {w r : List UInt8} (h : (10 : UInt8) ∉ w) : linesG (w ++ 10 :: r) = (w ++ [10]) :: linesG r := by
  rw [linesG, linesR_at w r h, linesG]; simp
theorem lf_cases (t : List UInt8) : ((10 : UInt8) ∉ t ∧ Lib.indexByte t 10 = -1) ∨ ∃ w r, t = w ++ 10 :: r ∧ (10 : UInt8) ∉ w ∧ Lib.indexByte t 10 = w.length := by
  rcases (by omega : Lib.indexByte t 10 < 0 ∨ 0 ≤ Lib.indexByte t 10) with h | h
  · have := Lib.indexByte_ge t 10
    have he : Lib.indexByte t 10 = -1 := by omega
    refine .inl ⟨fun hm => ?_, he⟩
    obtain ⟨i, hi, e⟩ := List.mem_iff_getElem.1 hm
    exact Lib.indexByte_none he i (by rw [List.getElem?_eq_getElem hi, e])
  · obtain ⟨o, ho⟩ : ∃ o : Nat, Lib.indexByte t 10 = o := ⟨(Lib.indexByte t 10).toNat, by omega⟩
    obtain ⟨h1, h2⟩ := Lib.indexByte_some ho
    obtain ⟨hl, he⟩ := List.getElem?_eq_some_iff.1 h1
    refine .inr ⟨t.take o, t.drop (o + 1), ?_, fun hm => ?_, by rw [ho, List.length_take]; omega⟩
    · conv => lhs; rw [← List.take_append_drop o t, List.drop_eq_getElem_cons hl, he]
    · obtain ⟨j, hj, e⟩ := List.mem_take_iff_getElem.1 hm
      exact h2 j (by omega) (by rw [List.getElem?_eq_getElem (by omega), e])

theorem drop_cons_iff' {α : Type} {L M : List α} {k : Nat} {x : α} (h : L.drop k = x :: M) : L[k]? = some x ∧ L.drop (k + 1) = M ∧ k + 1 ≤ L.length := by
  have hl : k < L.length := by
    rcases Nat.lt_or_ge k L.length with h1 | h1
    · exact h1
    · rw [List.drop_of_length_le h1] at h; cases h
  rw [List.drop_eq_getElem_cons hl] at h
  simp only [List.cons.injEq] at h
  exact ⟨by rw [List.getElem?_eq_getElem hl, h.1], h.2, hl⟩

def lineB (rs : Nat) (s : List UInt8) : DHeap := upd h0 rs (some (.cells [.str s] 9))
theorem lines_spec (G : Nat → DVal) (H : DHeap) (s : List UInt8) : DCalls Tryd.prog G 57 [.str s] H (fun e H' => ∃ r, e = .ret (.func (.func 81) [] [.optr r 0]) ∧ H r = none ∧ H' = upd H r (some (.cells [.str s] 9))) := by
  refine dcalls_intro Tryd.func57 Tryd.call57 rfl (by kernel_rfl) ?_
  simp (disch := omega) only [go_sem, Nat.reduceEqDiff, Nat.reduceAdd, Nat.reduceMul, Nat.reduceSub, Nat.reduceLeDiff, ↓reduceIte, reduceCtorEq, Int.reduceAdd, Int.reduceSub, Int.reduceMul, Int.reduceNeg, Int.reduceToNat, List.reduceReplicate, String.reduceEq]
  intro r hr; dsimp only at hr
  simp (disch := omega) only [go_sem, Nat.reduceEqDiff, Nat.reduceAdd, Nat.reduceMul, Nat.reduceSub, Nat.reduceLeDiff, ↓reduceIte, reduceCtorEq, Int.reduceAdd, Int.reduceSub, Int.reduceMul, Int.reduceNeg, Int.reduceToNat, List.reduceReplicate, String.reduceEq]
  exact DFin.refl ⟨r, rfl, hr, rfl⟩
theorem lines_iter (G : Nat → DVal) (s : List UInt8) (hs : s.length ≤ 1000000000) (rs : Nat) : DIter Tryd.prog G 81 [.optr rs 0] (lineB rs s) ((linesG s).map fun l => [.str l]) := by
  intro l I Ix Hi X d1 d2 d3 hYl hHl hI hY
  have hrs : Hi rs = none := d2 rs (by simp [lineB, upd])
  have hXr : X rs = none := by
    cases e : X rs with
    | none => rfl
    | some o => have := d3 rs (by simp [e]); simp [lineB, upd] at this
  have hlr : l ≠ rs := fun e => by rw [e] at hHl; exact hHl hrs
  have hst : over (over Hi (lineB rs s)) X = over (upd Hi rs (some (.cells [.str s] 9))) X := by
    congr 1
    funext i; simp only [lineB, over, upd, h0]; by_cases e : i = rs <;> simp [e]
  rw [hst]
  refine dcalls_intro Tryd.func81 Tryd.call81 rfl (by kernel_rfl) ?_
  simp (disch := omega) only [go_sem, Nat.reduceEqDiff, Nat.reduceAdd, Nat.reduceMul, Nat.reduceSub, Nat.reduceLeDiff, ↓reduceIte, reduceCtorEq, Int.reduceAdd, Int.reduceSub, Int.reduceMul, Int.reduceNeg, Int.reduceToNat, List.reduceReplicate, String.reduceEq]
  obtain ⟨J, hJ⟩ : ∃ J : Nat × List UInt8 → (Nat → DVal) → DHeap → Prop, ∀ ix env heap, J ix env heap ↔ (env 0 = .func (.yield l) [] [] ∧ env 1 = .optr rs 0 ∧ ix.2.length ≤ 1000000000 ∧ ((linesG s).map fun l => [DVal.str l]).drop ix.1 = (linesG ix.2).map (fun l => [DVal.str l]) ∧ ix.1 ≤ ((linesG s).map fun l => [DVal.str l]).length ∧ heap rs = some (.cells [.str ix.2] 9) ∧ ∃ X, heap = over (upd Hi rs (some (.cells [.str ix.2] 9))) X ∧ Disj (upd Hi rs (some (.cells [.str ix.2] 9))) X ∧ I ix.1 X) := ⟨_, fun _ _ _ => Iff.rfl⟩
  refine DLoop.run J (fun ix => ix.2.length) (0, s) ((hJ _ _ _).2 ?_) ?_
  · simp (disch := omega) only [go_sem, Nat.reduceEqDiff, Nat.reduceAdd, Nat.reduceMul, Nat.reduceSub, Nat.reduceLeDiff, ↓reduceIte, reduceCtorEq, Int.reduceAdd, Int.reduceSub, Int.reduceMul, Int.reduceNeg, Int.reduceToNat, List.reduceReplicate, String.reduceEq]
    refine ⟨?_, X, rfl, d1.lo hXr _, hI⟩
    rw [over_hi hXr, upd_same]
  · rintro ⟨k, t⟩ env heap hi
    obtain ⟨e0, e1, htl, hL, hk, hrt, X, hh, d1, hI⟩ := (hJ _ _ _).1 hi
    dsimp only at htl hL hk hrt hh d1 hI
    have hXr : X rs = none := d1.x (by simp [upd])
    have hup : ∀ t', upd heap rs (some (.cells [.str t'] 9)) = over (upd Hi rs (some (.cells [.str t'] 9))) X := fun t' => by
      rw [hh, upd_over_lo hXr, upd_idem]
    have dj : ∀ t', Disj (upd Hi rs (some (.cells [.str t'] 9))) X := fun t' => by
      have := d1.lo hXr (some (.cells [.str t'] 9)); rwa [upd_idem] at this
    have hsub : ∀ (X' : DHeap) t' o, Disj (upd (upd Hi rs (some (.cells [.str t'] 9))) l o) X' → Sub (over (upd Hi l o) X') (over (upd (upd Hi rs (some (.cells [.str t'] 9))) l o) X') ∧ Disj (upd Hi l o) X' := fun X' t' o hd => by
      have hX2 : X' rs = none := hd.x (by simp [upd, hlr.symm])
      refine ⟨fun b o' hb => ?_, ?_⟩
      · cases e : X' b with
        | some o2 => rw [over_x e] at hb ⊢; exact hb
        | none =>
          rw [over_hi e] at hb ⊢
          by_cases e2 : b = rs
          · subst e2; simp [upd, hlr.symm, hrs] at hb
          · rw [upd_swap hlr]
            simp only [upd, if_neg e2]
            simp only [upd] at hb
            exact hb
      · intro b hb
        have := hd b hb
        by_cases e2 : b = rs
        · subst e2; exact absurd hX2 hb
        · simp only [upd, if_neg e2] at this ⊢; exact this
    by_cases ht : t = []
    · subst ht
      simp (disch := omega) only [go_sem, Nat.reduceEqDiff, Nat.reduceAdd, Nat.reduceMul, Nat.reduceSub, Nat.reduceLeDiff, ↓reduceIte, reduceCtorEq, Int.reduceAdd, Int.reduceSub, Int.reduceMul, Int.reduceNeg, Int.reduceToNat, List.reduceReplicate, String.reduceEq, e0, e1, hrt, List.length_nil]
      have hkl : k = ((linesG s).map fun l => [DVal.str l]).length := by
        have := congrArg List.length hL
        rw [List.length_drop] at this
        simp [linesG_nil] at this
        simp at hk ⊢
        omega
      rw [hh]
      refine DFin.sub (H' := over Hi X) (fun b o hb => ?_) (DFin.refl ⟨⟨_, rfl⟩, X, .inl ⟨rfl, fun b hb => ?_, by rw [hkl] at hI; simpa using hI⟩⟩)
      · cases e : X b with
        | some o2 => rw [over_x e] at hb ⊢; exact hb
        | none =>
          rw [over_hi e] at hb ⊢
          by_cases e2 : b = rs
          · subst e2; rw [hrs] at hb; cases hb
          · simp only [upd, if_neg e2]; exact hb
      · have := d1 b hb
        by_cases e2 : b = rs
        · subst e2; exact hrs
        · simp only [upd, if_neg e2] at this; exact this
    · have hpos : 0 < t.length := List.length_pos_iff.2 ht
      have hpos' : (0 : Int) < (t.length : Int) := by omega
      simp (disch := omega) only [go_sem, Nat.reduceEqDiff, Nat.reduceAdd, Nat.reduceMul, Nat.reduceSub, Nat.reduceLeDiff, ↓reduceIte, reduceCtorEq, Int.reduceAdd, Int.reduceSub, Int.reduceMul, Int.reduceNeg, Int.reduceToNat, List.reduceReplicate, String.reduceEq, e0, e1, hrt, hpos']
      refine (indexByte_spec (G := G) t 10).mono ?_
      rintro _ H1 ⟨rfl, rfl⟩
      rcases lf_cases t with ⟨hno, hix⟩ | ⟨w, r, hwr, hno, hix⟩
      · rw [linesG_no hno ht] at hL
        obtain ⟨hx, hL2, hk2⟩ := drop_cons_iff' hL
        simp (disch := omega) only [go_sem, Nat.reduceEqDiff, Nat.reduceAdd, Nat.reduceMul, Nat.reduceSub, Nat.reduceLeDiff, ↓reduceIte, reduceCtorEq, Int.reduceAdd, Int.reduceSub, Int.reduceMul, Int.reduceNeg, Int.reduceToNat, List.reduceReplicate, String.reduceEq, e0, e1, hix, hrt]
        rw [hup []]
        refine (hY k _ _ X (dj []) (by simp [upd, hlr]) hx hI).mono ?_
        rintro e1' H1 ⟨X', (⟨rfl, rfl, d2, hI2⟩ | ⟨rfl, o, ho, rfl, d2, hx2⟩)⟩
        · simp (disch := omega) only [go_sem, Nat.reduceEqDiff, Nat.reduceAdd, Nat.reduceMul, Nat.reduceSub, Nat.reduceLeDiff, ↓reduceIte, reduceCtorEq, Int.reduceAdd, Int.reduceSub, Int.reduceMul, Int.reduceNeg, Int.reduceToNat, List.reduceReplicate, String.reduceEq, e0, e1]
          have hX2 : X' rs = none := d2.x (by simp [upd])
          refine ⟨(k + 1, []), _, GhostS.refl _, (hJ _ _ _).2 ?_, by dsimp only; simpa using hpos⟩
          simp (disch := omega) only [go_sem, Nat.reduceEqDiff, Nat.reduceAdd, Nat.reduceMul, Nat.reduceSub, Nat.reduceLeDiff, ↓reduceIte, reduceCtorEq, Int.reduceAdd, Int.reduceSub, Int.reduceMul, Int.reduceNeg, Int.reduceToNat, List.reduceReplicate, String.reduceEq, e0, e1, List.length_nil]
          (repeat' apply And.intro) <;> (try first | rfl | assumption | omega)
          · simpa using hk2
          · rw [over_hi hX2, upd_same]
          · exact ⟨X', rfl, d2, hI2⟩
        · simp (disch := omega) only [go_sem, Nat.reduceEqDiff, Nat.reduceAdd, Nat.reduceMul, Nat.reduceSub, Nat.reduceLeDiff, ↓reduceIte, reduceCtorEq, Int.reduceAdd, Int.reduceSub, Int.reduceMul, Int.reduceNeg, Int.reduceToNat, List.reduceReplicate, String.reduceEq, e0, e1]
          obtain ⟨k1, k2⟩ := hsub X' [] o d2
          exact DFin.sub k1 (DFin.refl ⟨⟨_, rfl⟩, X', .inr ⟨o, ho, rfl, k2, hx2⟩⟩)
      · subst hwr
        rw [linesG_at hno] at hL
        obtain ⟨hx, hL2, hk2⟩ := drop_cons_iff' hL
        have hw1 : IntKind.i64.wrap ((w.length : Int) + 1) = ((w.length + 1 : Nat) : Int) := by
          rw [List.length_append, List.length_cons] at htl; rw [IntKind.wrap_i64]; omega
        have ht1 : (w ++ 10 :: r).take (w.length + 1 - 0) = w ++ [10] := by
          rw [Nat.sub_zero, show w ++ 10 :: r = (w ++ [10]) ++ r by simp, List.take_append_of_le_length (by simp), List.take_of_length_le (by simp)]
        have ht2 : ((w ++ 10 :: r).drop (w.length + 1)).take ((w ++ 10 :: r).length - (w.length + 1)) = r := by
          rw [show w ++ 10 :: r = (w ++ [10]) ++ r by simp, List.drop_append_of_le_length (by simp), List.drop_of_length_le (by simp), List.nil_append, List.take_of_length_le (by simp; omega)]
        have hle : w.length + 1 ≤ (w ++ 10 :: r).length := by simp
        simp (disch := omega) only [go_sem, Nat.reduceEqDiff, Nat.reduceAdd, Nat.reduceMul, Nat.reduceSub, Nat.reduceLeDiff, ↓reduceIte, reduceCtorEq, Int.reduceAdd, Int.reduceSub, Int.reduceMul, Int.reduceNeg, Int.reduceToNat, List.reduceReplicate, String.reduceEq, e0, e1, hix, hrt]
        refine dwp_draws (by kernel_rfl) (.take 0 (.take 1 (.take 2 (.take 3 (.take 4 (.take 5 (.take 6 (.take 7 (.take 8 (.go 9 [] .done)))))))))) (by kernel_rfl) ?_
        simp (disch := omega) only [go_sem, Nat.reduceEqDiff, Nat.reduceAdd, Nat.reduceMul, Nat.reduceSub, Nat.reduceLeDiff, ↓reduceIte, reduceCtorEq, Int.reduceAdd, Int.reduceSub, Int.reduceMul, Int.reduceNeg, Int.reduceToNat, List.reduceReplicate, String.reduceEq, e0, e1, hix, hrt, hw1, Int.toNat_natCast, ht1, ht2]
        rw [hup r]
        refine (hY k _ _ X (dj r) (by simp [upd, hlr]) hx hI).mono ?_
        rintro e1' H1 ⟨X', (⟨rfl, rfl, d2, hI2⟩ | ⟨rfl, o, ho, rfl, d2, hx2⟩)⟩
        · simp (disch := omega) only [go_sem, Nat.reduceEqDiff, Nat.reduceAdd, Nat.reduceMul, Nat.reduceSub, Nat.reduceLeDiff, ↓reduceIte, reduceCtorEq, Int.reduceAdd, Int.reduceSub, Int.reduceMul, Int.reduceNeg, Int.reduceToNat, List.reduceReplicate, String.reduceEq, e0, e1]
          have hX2 : X' rs = none := d2.x (by simp [upd])
          refine ⟨(k + 1, r), _, GhostS.refl _, (hJ _ _ _).2 ?_, by dsimp only; simp; omega⟩
          simp (disch := omega) only [go_sem, Nat.reduceEqDiff, Nat.reduceAdd, Nat.reduceMul, Nat.reduceSub, Nat.reduceLeDiff, ↓reduceIte, reduceCtorEq, Int.reduceAdd, Int.reduceSub, Int.reduceMul, Int.reduceNeg, Int.reduceToNat, List.reduceReplicate, String.reduceEq, e0, e1]
          (repeat' apply And.intro) <;> (try first | rfl | assumption | omega)
          · simp at htl; omega
          · simpa using hk2
          · rw [over_hi hX2, upd_same]
          · exact ⟨X', rfl, d2, hI2⟩
        · simp (disch := omega) only [go_sem, Nat.reduceEqDiff, Nat.reduceAdd, Nat.reduceMul, Nat.reduceSub, Nat.reduceLeDiff, ↓reduceIte, reduceCtorEq, Int.reduceAdd, Int.reduceSub, Int.reduceMul, Int.reduceNeg, Int.reduceToNat, List.reduceReplicate, String.reduceEq, e0, e1]
          obtain ⟨k1, k2⟩ := hsub X' r o d2
          exact DFin.sub k1 (DFin.refl ⟨⟨_, rfl⟩, X', .inr ⟨o, ho, rfl, k2, hx2⟩⟩)
end Go.Dl

-- strings.Builder at the data level: copyCheck, WriteString, String.
namespace Go.Proofs
open Go.Shelf Go.RowKit
def Tryd.lays240_ren : Go.Shelf.Ren := ⟨fun | 240 => 78 | 276 => 93 | n => n, fun | 0 => 0 | 4 => 4 | 9 => 9 | 20 => 20 | 70 => 88 | 72 => 90 | 164 => 153 | 37 => 36 | 127 => 142 | 3 => 3 | 5 => 5 | n => n, fun | n => n⟩
theorem Tryd.lays240 : Go.Proofs.Lays.n240 Tryd.prog Tryd.lays240_ren := {
  mixed := by kernel_rfl
  f240 := Tryd.func78.trans (congrArg some (by kernel_rfl))
  f276 := Tryd.func93.trans (congrArg some (by kernel_rfl))
  t0 := Tryd.underlying0
  a0 := Tryd.isAgg0
  z0 := Tryd.sizeOf0
  v0 := Tryd.zeroValue0
  t4 := Tryd.underlying4
  a4 := Tryd.isAgg4
  z4 := Tryd.sizeOf4
  v4 := Tryd.zeroValue4
  t9 := Tryd.underlying9
  a9 := Tryd.isAgg9
  z9 := Tryd.sizeOf9
  v9 := Tryd.zeroValue9
  t20 := Tryd.underlying20
  a20 := Tryd.isAgg20
  z20 := Tryd.sizeOf20
  v20 := Tryd.zeroValue20
  t70 := Tryd.underlying88
  a70 := Tryd.isAgg88
  z70 := Tryd.sizeOf88
  v70 := Tryd.zeroValue88
  t72 := Tryd.underlying90
  a72 := Tryd.isAgg90
  z72 := Tryd.sizeOf90
  v72 := Tryd.zeroValue90
  t164 := Tryd.underlying153
  a164 := Tryd.isAgg153
  z164 := Tryd.sizeOf153
  v164 := Tryd.zeroValue153 }
theorem Tryd.X72_240 : Builder.X72 Tryd.prog Tryd.lays240_ren := { sizeBuilder := by kernel_rfl, liesBuilder := by kernel_rfl }

section
variable {P : Program} {ρ : Ren}
set_option maxHeartbeats 2000000 in
set_option maxRecDepth 100000 in
/-- (*strings.Builder).String of a buffer with at least one byte: the bytes read are frozen, nothing else turns. -/
theorem builder_string_at (L : Lays.n169 P ρ) (X : Builder.Extra P ρ) (b g cap cells : Nat) (l : List UInt8) (w : World) (h0 : l ≠ []) (hl63 : l.length ≤ 9223372036854775807) (hle : l.length ≤ cap) (hc1 : w.cell? ⟨b, 1, none⟩ = some (.slice (some ⟨g, 0, none⟩) l.length cap))
    (hsh : w.shape? g = some (ρ.t 5, cells)) (hn : l.length ≤ cells) (hcell : ∀ j x, l[j]? = some x → w.cell? ((⟨g, 0, none⟩ : Addr).add j) = some (.int .u8 x.toNat)) :
    Calls P (ρ.f 169) #[.pointer (some ⟨b, 0, none⟩)] w fun e w' => e = .returned (.string ⟨l.toArray⟩) ∧ w' = w.drew.freeze ⟨g, 0, none⟩ l.length := by
  have hl0 : l.length ≠ 0 := by simpa using h0
  have c1 : w.drew.cell? ⟨b, 1, none⟩ = some (.slice (some ⟨g, 0, none⟩) l.length cap) := hc1
  have hSD : (Builtin.unsafeSliceData_ #[(ρ.t 37)] (ρ.t 127) #[.slice (some ⟨g, 0, none⟩) l.length cap]).run P w.drew = .ok (.pointer (some ⟨g, 0, none⟩)) w.drew :=
    Lib.run_unsafeSliceData_row _ _ _ _ _ _ (by omega)
  have hUS : (Builtin.unsafeString_ #[(ρ.t 127), (ρ.t 3)] (ρ.t 9) #[.pointer (some ⟨g, 0, none⟩), .int .i64 l.length]).run P w.drew = .ok (.string ⟨l.toArray⟩) (w.drew.freeze ⟨g, 0, none⟩ l.length) :=
    Lib.run_unsafeString_row w.drew (ρ.t 127) (ρ.t 3) (ρ.t 9) (ρ.t 5) L.t127 X.cellsByte g cells hsh l h0 hn hl63 hcell
  have mixed := L.mixed
  have t72 := L.t72; have a72 := L.a72; have z72 := L.z72; have v72 := L.v72; have u72 := run_underlying L.t72
  have t70 := L.t70; have a70 := L.a70; have z70 := L.z70; have v70 := L.v70; have u70 := run_underlying L.t70
  have t37 := L.t37; have a37 := L.a37; have z37 := L.z37; have v37 := L.v37; have u37 := run_underlying L.t37
  have t127 := L.t127; have a127 := L.a127; have z127 := L.z127; have v127 := L.v127; have u127 := run_underlying L.t127
  have t3 := L.t3; have a3 := L.a3; have z3 := L.z3; have v3 := L.v3; have u3 := run_underlying L.t3
  have t9 := L.t9; have a9 := L.a9; have z9 := L.z9; have v9 := L.v9; have u9 := run_underlying L.t9
  have t5 := X.t5; have a5 := X.a5; have z5 := X.z5; have v5 := X.v5; have u5 := run_underlying X.t5
  go_enter L.f169, Body.n169_ntmps ρ
  go_wp2
  go_region_o
  all_goals (go_wp2; go_ret; exact ⟨rfl, rfl⟩)
set_option maxHeartbeats 2000000 in
set_option maxRecDepth 100000 in
/-- .. of a buffer that is nil. -/
theorem builder_string_nil (L : Lays.n169 P ρ) (X : Builder.Extra P ρ) (b : Nat) (w : World) (hc1 : w.cell? ⟨b, 1, none⟩ = some (.slice none 0 0)) :
    Calls P (ρ.f 169) #[.pointer (some ⟨b, 0, none⟩)] w fun e w' => e = .returned (.string ⟨#[]⟩) ∧ w' = w.drew := by
  have hUS := Any.unsafeString_none L X
  have c1 : w.drew.cell? ⟨b, 1, none⟩ = some (.slice none 0 0) := hc1
  have hSD : (Builtin.unsafeSliceData_ #[(ρ.t 37)] (ρ.t 127) #[.slice none 0 0]).run P w.drew = .ok (.pointer none) w.drew := rfl
  have mixed := L.mixed
  have t72 := L.t72; have a72 := L.a72; have z72 := L.z72; have v72 := L.v72; have u72 := run_underlying L.t72
  have t70 := L.t70; have a70 := L.a70; have z70 := L.z70; have v70 := L.v70; have u70 := run_underlying L.t70
  have t37 := L.t37; have a37 := L.a37; have z37 := L.z37; have v37 := L.v37; have u37 := run_underlying L.t37
  have t127 := L.t127; have a127 := L.a127; have z127 := L.z127; have v127 := L.v127; have u127 := run_underlying L.t127
  have t3 := L.t3; have a3 := L.a3; have z3 := L.z3; have v3 := L.v3; have u3 := run_underlying L.t3
  have t9 := L.t9; have a9 := L.a9; have z9 := L.z9; have v9 := L.v9; have u9 := run_underlying L.t9
  have t5 := X.t5; have a5 := X.a5; have z5 := X.z5; have v5 := X.v5; have u5 := run_underlying X.t5
  go_enter L.f169, Body.n169_ntmps ρ
  go_wp2
  go_region_o
  all_goals (go_wp2; go_ret; exact ⟨rfl, rfl⟩)
end
theorem rowAt_more {P : Program} {fits : TypeId → Bool} {d : Nat} {e : TypeId} {count : Nat} (h : 1 ≤ count) (hr : rowAt P fits (d + 1) e 1 0 1 = true) : rowAt P fits (d + 1) e count 0 1 = true := by
  unfold rowAt at hr ⊢
  simp only [Nat.zero_div, Nat.zero_mod, Nat.zero_add] at hr ⊢
  split at hr
  · cases hr
  · rename_i hs
    rw [if_neg hs]
    have h1 : decide (1 ≤ count) = true := decide_eq_true h
    have h2 : decide (0 < count) = true := decide_eq_true (by omega)
    rw [h1, h2]
    exact hr
theorem liesAt_more {P : Program} {d : Nat} {e : TypeId} {count : Nat} (h : 1 ≤ count) (hd : P.depth = d + 1) (hr : rowAt P (sameLayout P P.depth · e) P.depth e 1 0 1 = true) : liesAt P P.depth e count 0 e 1 = true := by
  have : rowAt P (sameLayout P P.depth · e) P.depth e count 0 1 = true := by
    generalize hf : (sameLayout P P.depth · e) = fits at hr ⊢
    rw [hd] at hr ⊢
    exact rowAt_more h hr
  conv => lhs; rw [hd]
  unfold liesAt
  rw [this]; rfl
section
variable {P : Program} {ρ : Ren}
set_option maxHeartbeats 2000000 in
set_option maxRecDepth 100000 in
/-- copyCheck at a fresh builder. -/
theorem copyCheck_fresh_at (L : Lays.n240 P ρ) (X : Builder.X72 P ρ) (b n : Nat) (w : World) (h0 : w.cell? ⟨b, 0, none⟩ = some (.pointer none)) (hsh : w.shape? b = some ((ρ.t 72), n)) (hn : 0 < n)
    (hlies : liesAt P P.depth (ρ.t 72) (n / P.cellsOf (ρ.t 72)) 0 (ρ.t 72) 1 = true) (hfz : w.frozen? ⟨b, 0, none⟩ = false) :
    Calls P (ρ.f 240) #[.pointer (some ⟨b, 0, none⟩)] w fun e w' => e = .returned (.tuple #[]) ∧ w' = w.setCell ⟨b, 0, none⟩ (.pointer (some ⟨b, 0, none⟩)) := by
  obtain ⟨j, hj, hjs⟩ := Option.map_eq_some_iff.1 X.sizeBuilder
  have mixed := L.mixed
  have t72 := L.t72; have a72 := L.a72; have z72 := L.z72; have v72 := L.v72; have u72 := run_underlying L.t72
  have t70 := L.t70; have a70 := L.a70; have z70 := L.z70; have v70 := L.v70; have u70 := run_underlying L.t70
  have t9 := L.t9; have a9 := L.a9; have z9 := L.z9; have v9 := L.v9; have u9 := run_underlying L.t9
  have t4 := L.t4; have a4 := L.a4; have z4 := L.z4; have v4 := L.v4; have u4 := run_underlying L.t4
  have t164 := L.t164; have a164 := L.a164; have z164 := L.z164; have v164 := L.v164; have u164 := run_underlying L.t164
  go_enter L.f240, Body.n240_ntmps ρ
  go_wp2
  rw [Lib.run_to_unsafe w ⟨b, 0, none⟩ L.t70 L.t164 hj (by rw [hjs]; decide) hsh hn]
  simp only [Result.andThen]
  rw [Oper.upon_value]
  go_wp2
  rw [run_callFunc_extern L.f276 (by kernel_rfl) (by kernel_rfl) (by kernel_rfl) (e := Extern.AbiNoEscape.same) (by kernel_rfl)]
  rw [Lib.run_noEscape]
  simp only [Result.andThen]
  rw [Oper.upon_value]
  go_wp2
  rw [Lib.run_from_unsafe w ⟨b, 0, none⟩ L.t164 L.t70 hj hsh hlies]
  simp only [Result.andThen]
  rw [Oper.upon_value]
  go_wp2
  go_end0
  exact ⟨rfl, rfl⟩
end
end Go.Proofs


-- strings.Builder at the data level.
namespace Go.Dl
open Go Go.Proofs Go.RowKit
set_option maxRecDepth 10000
attribute [go_sem] List.getElem?_toArray List.getElem?_cons_zero List.getElem?_cons_succ List.append_eq

/-- The bytes of a string as cells. -/
def dBy (l : List UInt8) : List DVal := l.map fun b => .int .u8 b.toNat
theorem dBy_length (l : List UInt8) : (dBy l).length = l.length := by simp [dBy]
theorem dBy_append (l m : List UInt8) : dBy (l ++ m) = dBy l ++ dBy m := by simp [dBy]
theorem dBy_one (l : List UInt8) : (dBy l).all (fun d => d.one) = true := by simp [dBy, DVal.one]
theorem str_dBy (l : List UInt8) : (l.map fun b : UInt8 => DVal.int .u8 b.toNat) = dBy l := rfl

theorem run_store1 {P : Program} {w : World} {r off : Nat} {c : Array Value} {e : TypeId} {fz : Nat × Nat} {x : Value} (hc : w.heap[r]? = some (.cells c e fz)) (hi : off < c.size) (h1 : x.oneCell' = true) (hf : ∀ j, j < c.size → ¬ (fz.1 ≤ j ∧ j < fz.2)) :
    (storeCells ⟨r, off, none⟩ [x] 0).run P w = .ok () (w.setCell ⟨r, off, none⟩ x) := by
  have hcell : w.cell? ⟨r, off, none⟩ = some c[off] := by simp [World.cell?, hc, hi]
  have hfr : w.frozen? ⟨r, off, none⟩ = false := by
    have := hf off hi
    obtain ⟨lo, hi'⟩ := fz
    simp [World.frozen?, hc]
    intro h2
    have := fun h3 => this ⟨h2, h3⟩
    simp at this; omega
  simp only [storeCells, Sem.run_bind, add_lit, Nat.add_zero, run_store P w _ x _ h1, hcell, hfr]
  rfl
theorem setCell_own {P : Program} {w : World} {H : DHeap} (hH : SimHeap w H) {r off : Nat} {cs : List DVal} {d : DVal} {e : TypeId} (hr : H r = some (.cells cs e)) {x : Value} (hx : Rel w H d x) (h1 : d.one = true) (hle : off < cs.length) :
    SimHeap (w.setCell ⟨r, off, none⟩ x) (upd H r (some (.cells (splice cs off [d]) e))) ∧ Ext H w (upd H r (some (.cells (splice cs off [d]) e))) (w.setCell ⟨r, off, none⟩ x) := by
  have hv : RelL w H [d] [x] := by simp only [RelL]; exact ⟨x, [], rfl, hx, rfl⟩
  have ha : [d].all (·.one) = true := by simp [h1]
  obtain ⟨w', hrun, k1, k2⟩ := store_own (P := P) (off := off) hH hr hv ha (by simp; omega)
  obtain ⟨xs, c, fz, g1, g2, g3, g4⟩ := hH r _ hr
  have hlx := g3.length
  have hsz : xs.length ≤ c.size := by obtain ⟨t, ht⟩ := g2; rw [← Array.length_toList, ← ht]; simp
  have := run_store1 (P := P) (x := x) g1 (off := off) (by omega) (relL_one hv ha x (by simp)) g4
  rw [hrun] at this
  cases this
  exact ⟨k1, k2⟩

variable {G : Nat → DVal} {H : DHeap}
theorem lies_builder : Go.rowAt Tryd.prog (Go.sameLayout Tryd.prog Tryd.prog.depth · 90) Tryd.prog.depth 90 1 0 1 = true := by kernel_rfl
theorem cells_builder : Tryd.prog.cellsOf 90 = 2 := by kernel_rfl
theorem depth_builder : ∃ d, Tryd.prog.depth = d + 1 := ⟨Tryd.prog.depth - 1, by kernel_rfl⟩
theorem copyCheck_fresh {b : Nat} {v : DVal} (hr : H b = some (.cells [.nilPtr, v] 90)) :
    DCalls Tryd.prog G 78 [.optr b 0] H (fun e H' => e = .ret (.tuple []) ∧ H' = upd H b (some (.cells [.optr b 0, v] 90))) := by
  refine ⟨Tryd.call78, fun vs w hv hH hG => ?_⟩
  simp only [RelL, Rel] at hv
  obtain ⟨y, ys, rfl, rfl, rfl⟩ := hv
  obtain ⟨xs, c, fz, g1, g2, g3, g4⟩ := hH b _ hr
  simp only [RelL, Rel] at g3
  obtain ⟨y0, ys0, rfl, rfl, y1, ys1, rfl, g5, rfl⟩ := g3
  have hsz : 2 ≤ c.size := by obtain ⟨t, ht⟩ := g2; rw [← Array.length_toList, ← ht]; simp
  have hc0 : w.cell? ⟨b, 0, none⟩ = some (.pointer none) := by
    obtain ⟨t, ht⟩ := g2
    have : c.toList[0]? = some (.pointer none) := by rw [← ht]; rfl
    simp [World.cell?, g1]; simpa using this
  have hf0 : w.frozen? ⟨b, 0, none⟩ = false := by
    have := g4 0 (by omega)
    obtain ⟨lo, hi'⟩ := fz
    simp [World.frozen?, g1]
    intro h2
    have := fun h3 => this ⟨by omega, h3⟩
    simp at this; omega
  obtain ⟨d, hd⟩ := depth_builder
  have hl : liesAt Tryd.prog Tryd.prog.depth 90 (c.size / Tryd.prog.cellsOf 90) 0 90 1 = true :=
    liesAt_more (by rw [cells_builder]; omega) hd lies_builder
  refine (copyCheck_fresh_at Tryd.lays240 Tryd.X72_240 b c.size w hc0 (by simp [World.shape?, g1]; rfl) (by omega) hl hf0).mono ?_
  rintro e w' ⟨rfl, rfl⟩
  obtain ⟨k1, k2⟩ := setCell_own (P := Tryd.prog) hH hr (off := 0) (d := .optr b 0) (x := .pointer (some ⟨b, 0, none⟩)) (by simp [Rel]) rfl (by simp)
  exact ⟨_, _, ⟨rfl, rfl⟩, .ret _ _ (by simp [Rel, RelL]), k1, k2⟩
theorem copyCheck_used {b : Nat} {v : DVal} (hr : H b = some (.cells [.optr b 0, v] 90)) :
    DCalls Tryd.prog G 78 [.optr b 0] H (DRet (.tuple []) H) := by
  refine ⟨Tryd.call78, fun vs w hv hH hG => ?_⟩
  simp only [RelL, Rel] at hv
  obtain ⟨y, ys, rfl, rfl, rfl⟩ := hv
  obtain ⟨xs, g3, g4⟩ := hH.holds hr
  simp only [RelL, Rel] at g3
  obtain ⟨y0, ys0, rfl, rfl, y1, ys1, rfl, g5, rfl⟩ := g3
  refine (Any.Builder_copyCheck_used Tryd.lays240 Tryd.X72_240 b w (by simpa using g4 0 _ rfl)).mono ?_
  rintro e w' ⟨rfl, rfl⟩
  exact ⟨_, _, ⟨rfl, rfl⟩, .ret _ _ (by simp [Rel, RelL]), hH, Ext.refl _ _⟩

section
variable {H' : DHeap} {e : TypeId} {size n : Nat} {cs : List DVal} {v : DVal}
theorem OwnJ.rebl {q : Nat} {o o' : DObj} (h : OwnJ (upd H q (some o)) e size n cs v H') : OwnJ (upd H q (some o')) e size n cs v (upd H' q (some o')) := by
  have hs : ∀ {H'' : DHeap}, Sub (upd H q (some o)) H'' → Sub (upd H q (some o')) (upd H'' q (some o')) := fun k r x hx => by
    by_cases e : r = q
    · subst e; rw [upd_same] at hx ⊢; exact hx
    · simp only [upd, if_neg e] at hx ⊢; exact k r x (by simp only [upd, if_neg e]; exact hx)
  rcases h with ⟨a, b, c, d⟩ | ⟨r, a, b, c, d, f⟩
  · exact .inl ⟨a, b, c, hs d⟩
  · have : r ≠ q := fun e => by subst e; rw [upd_same] at a; cases a
    exact .inr ⟨r, by simp only [upd, if_neg this] at a ⊢; exact a, b, c, by simp only [upd, if_neg this]; exact d, hs f⟩
end

/-- A builder in block b, over the memory H, with the bytes l. -/
structure Bld (H : DHeap) (b : Nat) (l : List UInt8) (H' : DHeap) : Prop where
  no : H b = none
  has : ∃ p v, (p = .nilPtr ∨ p = .optr b 0) ∧ (l = [] → v = .nilSlice) ∧ OwnJ (upd H b (some (.cells [p, v] 90))) 5 1 l.length (dBy l) v H'
theorem Bld.new {b : Nat} (h : H b = none) : Bld H b [] (upd H b (some (.cells [.nilPtr, .nilSlice] 90))) :=
  ⟨h, .nilPtr, .nilSlice, .inl rfl, fun _ => rfl, OwnJ.nil _ _ (Sub.refl _)⟩
theorem Bld.sub {H' : DHeap} {b : Nat} {l : List UInt8} (h : Bld H b l H') : Sub H H' := by
  obtain ⟨h1, p, v, _, _, h4⟩ := h
  exact ((Sub.refl H).up h1 _).trans h4.sub
theorem Bld.more {H' H2 : DHeap} {b : Nat} {l : List UInt8} (h : Bld H b l H') (k : Sub H' H2) : Bld H b l H2 := by
  obtain ⟨h1, p, v, h2, h3, h4⟩ := h
  exact ⟨h1, p, v, h2, h3, h4.more k⟩
theorem Bld.less {H' H1 : DHeap} {b : Nat} {l : List UInt8} (h : Bld H b l H') (k : Sub H1 H) : Bld H1 b l H' := by
  obtain ⟨h1, p, v, h2, h3, h4⟩ := h
  exact ⟨k.lo h1, p, v, h2, h3, h4.less (k.both _ _)⟩
theorem Bld.frame {H' : DHeap} {b r : Nat} {l : List UInt8} (h : Bld H b l H') (hr : H' r = none) (o : DObj) : Bld (upd H r (some o)) b l (upd H' r (some o)) := by
  obtain ⟨h1, p, v, h2, h3, h4⟩ := h
  have hb : b ≠ r := fun e => by
    have := h4.keep (r := b) (upd_same _ _ _)
    rw [e, hr] at this; cases this
  refine ⟨by simp [upd, hb, h1], p, v, h2, h3, ?_⟩
  have := h4.frame hr o
  rwa [upd_swap hb.symm] at this

theorem writeString_spec {H0 : DHeap} {b : Nat} {l : List UInt8} (s : List UInt8) (h : Bld H b l H0) (hl : l.length + s.length ≤ 35184372088832) :
    DCalls Tryd.prog G 52 [.optr b 0, .str s] H0 (fun e H1 => e = .ret (.tuple [dI s.length, .nilIface]) ∧ Bld H b (l ++ s) H1) := by
  obtain ⟨h1, p, v, hp, hnil, hv⟩ := h
  have hb0 := hv.keep (r := b) (upd_same _ _ _)
  have hlast : ∀ H2 v2 p', (p' = .nilPtr ∨ p' = .optr b 0) → (l ++ s = [] → v2 = .nilSlice) → OwnJ (upd H b (some (.cells [p', v] 90))) 5 1 (l.length + s.length) (dBy l ++ dBy s) v2 H2 → Bld H b (l ++ s) (upd H2 b (some (.cells [p', v2] 90))) := fun H2 v2 p' q1 q2 q3 => by
    refine ⟨h1, p', v2, q1, q2, ?_⟩
    have := q3.rebl (o' := .cells [p', v2] 90)
    rw [List.length_append, dBy_append]
    exact this
  have hone := hv.cell1
  have happ : ∀ {dst : Option Nat} {K : DK} {env : Nat → DVal} {p' : DVal} {H1 : DHeap}, OwnJ (upd H b (some (.cells [p', v] 90))) 5 1 l.length (dBy l) v H1 →
      (∀ v2 H2, (l ++ s = [] → v2 = .nilSlice) → OwnJ (upd H b (some (.cells [p', v] 90))) 5 1 (l.length + s.length) (dBy l ++ dBy s) v2 H2 → K ⟨updO env dst v2, H2⟩) → dAppendTo 5 1 1 s.length (dBy s) dst v K ⟨env, H1⟩ := by
    intro dst K env p' H1 q hK
    by_cases hs : l ++ s = []
    · simp only [List.append_eq_nil_iff] at hs
      obtain ⟨rfl, rfl⟩ := hs
      have hv0 := hnil rfl
      subst hv0
      simp only [dAppendTo, List.length_nil]
      exact ⟨fun _ => hK _ _ (fun _ => rfl) (by simpa [dBy] using q), fun h => absurd rfl h⟩
    · exact OwnJ.append q (by rw [dBy_length]; omega) (by omega) fun v2 H2 q2 => hK v2 H2 (fun e => absurd e hs) q2
  refine dcalls_intro Tryd.func52 Tryd.call52 rfl (by kernel_rfl) ?_
  simp (disch := omega) only [go_sem, Nat.reduceEqDiff, Nat.reduceAdd, Nat.reduceMul, Nat.reduceSub, Nat.reduceLeDiff, ↓reduceIte, reduceCtorEq, Int.reduceAdd, Int.reduceSub, Int.reduceMul, Int.reduceNeg, Int.reduceToNat, List.reduceReplicate, String.reduceEq]
  rcases hp with rfl | rfl
  · refine (copyCheck_fresh hb0).mono ?_
    rintro _ H1 ⟨rfl, rfl⟩
    simp (disch := omega) only [go_sem, Nat.reduceEqDiff, Nat.reduceAdd, Nat.reduceMul, Nat.reduceSub, Nat.reduceLeDiff, ↓reduceIte, reduceCtorEq, Int.reduceAdd, Int.reduceSub, Int.reduceMul, Int.reduceNeg, Int.reduceToNat, List.reduceReplicate, String.reduceEq, str_dBy, dBy_length, dBy_one]
    refine happ (OwnJ.rebl hv) fun v2 H2 q1 q2 => ?_
    have hb2 := q2.keep (r := b) (upd_same _ _ _)
    have c2 := q2.cell1
    simp (disch := omega) only [go_sem, Nat.reduceEqDiff, Nat.reduceAdd, Nat.reduceMul, Nat.reduceSub, Nat.reduceLeDiff, ↓reduceIte, reduceCtorEq, Int.reduceAdd, Int.reduceSub, Int.reduceMul, Int.reduceNeg, Int.reduceToNat, List.reduceReplicate, String.reduceEq, hb2, c2.1, c2.2, List.all_cons, List.all_nil]
    exact DFin.refl ⟨rfl, hlast _ _ _ (.inr rfl) q1 q2⟩
  · refine (copyCheck_used hb0).mono ?_
    rintro _ H1 ⟨rfl, rfl⟩
    simp (disch := omega) only [go_sem, Nat.reduceEqDiff, Nat.reduceAdd, Nat.reduceMul, Nat.reduceSub, Nat.reduceLeDiff, ↓reduceIte, reduceCtorEq, Int.reduceAdd, Int.reduceSub, Int.reduceMul, Int.reduceNeg, Int.reduceToNat, List.reduceReplicate, String.reduceEq, hb0, str_dBy, dBy_length, dBy_one]
    refine happ hv fun v2 H2 q1 q2 => ?_
    have hb2 := q2.keep (r := b) (upd_same _ _ _)
    have c2 := q2.cell1
    simp (disch := omega) only [go_sem, Nat.reduceEqDiff, Nat.reduceAdd, Nat.reduceMul, Nat.reduceSub, Nat.reduceLeDiff, ↓reduceIte, reduceCtorEq, Int.reduceAdd, Int.reduceSub, Int.reduceMul, Int.reduceNeg, Int.reduceToNat, List.reduceReplicate, String.reduceEq, hb2, c2.1, c2.2, List.all_cons, List.all_nil]
    exact DFin.refl ⟨rfl, hlast _ _ _ (.inr rfl) q1 q2⟩

theorem string_spec {H0 : DHeap} {b : Nat} {l : List UInt8} (h : Bld H b l H0) (hl : l.length ≤ 9223372036854775807) :
    DCalls Tryd.prog G 54 [.optr b 0] H0 (fun e H1 => e = .ret (.str l) ∧ Sub H H1) := by
  obtain ⟨h1, p, v, hp, hnil, hv⟩ := h
  have hb0 := hv.keep (r := b) (upd_same _ _ _)
  refine ⟨Tryd.call54, fun vs w hvs hH hG => ?_⟩
  simp only [RelL, Rel] at hvs
  obtain ⟨y, ys, rfl, rfl, rfl⟩ := hvs
  obtain ⟨xs, g3, g4⟩ := hH.holds hb0
  simp only [RelL] at g3
  obtain ⟨y0, ys0, rfl, gp, y1, ys1, rfl, g5, rfl⟩ := g3
  have hc1 : w.cell? ⟨b, 1, none⟩ = some y1 := by simpa using g4 1 _ rfl
  by_cases hl0 : l = []
  · have hv0 := hnil hl0
    subst hv0; subst hl0
    simp only [Rel] at g5
    subst g5
    refine (builder_string_nil Tryd.lays169 Tryd.Builder_Extra_169 b w hc1).mono ?_
    rintro e w' ⟨rfl, rfl⟩
    obtain ⟨k1, k2⟩ := (Quiet.drewN w 1).ext hH
    exact ⟨.ret (.str []), H0, ⟨rfl, ((Sub.refl H).up h1 _).trans hv.sub⟩, .ret _ _ (by simp [Rel]), k1, k2⟩
  · have hne : l.length ≠ 0 := by simpa using hl0
    rcases hv with ⟨hn, _⟩ | ⟨r, hr, hlen, rfl, hr0, hsub⟩
    · exact absurd hn hne
    simp only [Rel] at g5
    obtain ⟨o, cap, rfl, k1, k2, k3, k4⟩ := g5
    have ho : o = 0 := k3.resolve_left (by omega)
    subst ho
    obtain ⟨xs, c, fz, q1, q2, q3, q4⟩ := hH r _ hr0
    have hxl := q3.length
    rw [dBy_length] at hxl
    have hsz : xs.length ≤ c.size := by obtain ⟨t, ht⟩ := q2; rw [← Array.length_toList, ← ht]; simp
    have hcell : ∀ j x, l[j]? = some x → w.cell? ((⟨r, 0, none⟩ : Addr).add j) = some (.int .u8 x.toNat) := fun j x hx => by
      obtain ⟨hj, _⟩ := List.getElem?_eq_some_iff.1 hx
      obtain ⟨z, hz, hrz⟩ := q3.get (i := j) (d := .int .u8 x.toNat) (by simp [dBy, hx])
      simp only [Rel] at hrz
      subst hrz
      obtain ⟨t, ht⟩ := q2
      have hcj : c.toList[j]? = some (.int .u8 x.toNat) := by rw [← ht, List.getElem?_append_left (by omega)]; exact hz
      rw [show (⟨r, 0, none⟩ : Addr).add j = ⟨r, j, none⟩ by cases j <;> simp [Addr.add]]
      simp [World.cell?, q1]
      simpa using hcj
    refine (builder_string_at Tryd.lays169 Tryd.Builder_Extra_169 b r cap c.size l w hl0 hl (by omega) hc1 (by simp [World.shape?, q1]; rfl) (by omega) hcell).mono ?_
    rintro e w' ⟨rfl, rfl⟩
    have hfr : ∀ b', b' ≠ r → (w.drew.freeze ⟨r, 0, none⟩ l.length).heap[b']? = w.heap[b']? := fun b' hb' => by
      simp only [World.freeze, if_neg hne, Array.getElem?_modify, if_neg (Ne.symm hb')]
      rfl
    have hE : Ext H0 w (upd H0 r none) (w.drew.freeze ⟨r, 0, none⟩ l.length) := by
      refine ⟨by simp only [World.freeze, if_neg hne]; rfl, by simp only [World.freeze, if_neg hne]; rfl, by simp only [World.freeze, if_neg hne]; rfl, by simp only [World.freeze, if_neg hne, Array.size_modify]; exact Nat.le_refl _, fun b' _ hn => hfr b' (fun e => by rw [e, hr0] at hn; cases hn), fun b' hb' => .inl (by simp only [upd] at hb'; split at hb' <;> simp_all), fun b' _ => ?_, fun a _ hn => ?_⟩
      · by_cases e1 : b' = r
        · subst e1
          have : (w.drew.freeze ⟨b', 0, none⟩ l.length).heap[b']? = (w.heap[b']?).map fun | .cells c elem (lo, hi) => .cells c elem (if lo == hi then (0, 0 + l.length) else (min lo 0, max hi (0 + l.length))) | o => o := by
            simp only [World.freeze, if_neg hne, Array.getElem?_modify, if_true]; rfl
          rw [this, q1]; rfl
        · rw [hfr b' e1]
      · have e1 : a.block ≠ r := fun e => by rw [e, hr0] at hn; cases hn
        unfold World.frozen?
        rw [hfr _ e1]
    refine ⟨.ret (.str l), upd H0 r none, ⟨rfl, fun b' o' hb' => ?_⟩, .ret _ _ (by simp only [Rel]), fun b' o' hb' => ?_, hE⟩
    · have hbb : b' ≠ b := fun e => by rw [e, h1] at hb'; cases hb'
      have hrr : b' ≠ r := fun e => by rw [← e] at hr; simp only [upd, if_neg hbb] at hr; rw [hr] at hb'; cases hb'
      simp only [upd, if_neg hrr]
      exact hsub b' o' (by simp only [upd, if_neg hbb]; exact hb')
    · have hrr : b' ≠ r := fun e => by subst e; simp [upd] at hb'
      simp only [upd, if_neg hrr] at hb'
      rw [hfr b' hrr]
      exact (hH b' o' hb').lasts hE.lasts
end Go.Dl

-- Chapter 22: bounds, closures, the fields of an instruction.
namespace Go.Dl
open Go Go.Proofs
set_option maxRecDepth 10000

def boundsC (n : Int) : Int × Int := if n = 114 then (0, 15) else if n = 111 then (0, 4095) else if n = 115 then (0, 65535) else if n = 108 then (1, 65536) else if n = 120 then (1, 64) else if n = 107 then (6, 7) else if n = 101 then (0, 7) else if n = 112 then (0, 31) else if n = 113 then (-1, 31) else if n = 109 then (0, 3) else if n = 106 then (0, 1023) else if n = 98 then (0, 1) else (-9223372036854775808, 9223372036854775807)
theorem bounds_spec (G : Nat → DVal) (H : DHeap) (n : Int) (h0 : 0 ≤ n) (h1 : n < 256) : DCalls Tryd.prog G 91 [.int .u8 n] H (DRet (.tuple [dI (boundsC n).1, dI (boundsC n).2]) H) := by
  refine dcalls_intro Tryd.func91 Tryd.call91 rfl (by kernel_rfl) ?_
  by_cases c114 : n = 114
  · simp (disch := omega) only [go_sem, Nat.reduceEqDiff, Nat.reduceAdd, Nat.reduceMul, Nat.reduceSub, Nat.reduceLeDiff, ↓reduceIte, reduceCtorEq, Int.reduceAdd, Int.reduceSub, Int.reduceMul, Int.reduceNeg, Int.reduceToNat, List.reduceReplicate, String.reduceEq, c114]
    exact DFin.refl ⟨by rw [boundsC]; simp [c114], rfl⟩
  by_cases c111 : n = 111
  · simp (disch := omega) only [go_sem, Nat.reduceEqDiff, Nat.reduceAdd, Nat.reduceMul, Nat.reduceSub, Nat.reduceLeDiff, ↓reduceIte, reduceCtorEq, Int.reduceAdd, Int.reduceSub, Int.reduceMul, Int.reduceNeg, Int.reduceToNat, List.reduceReplicate, String.reduceEq, c111]
    exact DFin.refl ⟨by rw [boundsC]; simp [c111], rfl⟩
  by_cases c115 : n = 115
  · simp (disch := omega) only [go_sem, Nat.reduceEqDiff, Nat.reduceAdd, Nat.reduceMul, Nat.reduceSub, Nat.reduceLeDiff, ↓reduceIte, reduceCtorEq, Int.reduceAdd, Int.reduceSub, Int.reduceMul, Int.reduceNeg, Int.reduceToNat, List.reduceReplicate, String.reduceEq, c115]
    exact DFin.refl ⟨by rw [boundsC]; simp [c115], rfl⟩
  by_cases c108 : n = 108
  · simp (disch := omega) only [go_sem, Nat.reduceEqDiff, Nat.reduceAdd, Nat.reduceMul, Nat.reduceSub, Nat.reduceLeDiff, ↓reduceIte, reduceCtorEq, Int.reduceAdd, Int.reduceSub, Int.reduceMul, Int.reduceNeg, Int.reduceToNat, List.reduceReplicate, String.reduceEq, c108]
    exact DFin.refl ⟨by rw [boundsC]; simp [c108], rfl⟩
  by_cases c120 : n = 120
  · simp (disch := omega) only [go_sem, Nat.reduceEqDiff, Nat.reduceAdd, Nat.reduceMul, Nat.reduceSub, Nat.reduceLeDiff, ↓reduceIte, reduceCtorEq, Int.reduceAdd, Int.reduceSub, Int.reduceMul, Int.reduceNeg, Int.reduceToNat, List.reduceReplicate, String.reduceEq, c120]
    exact DFin.refl ⟨by rw [boundsC]; simp [c120], rfl⟩
  by_cases c107 : n = 107
  · simp (disch := omega) only [go_sem, Nat.reduceEqDiff, Nat.reduceAdd, Nat.reduceMul, Nat.reduceSub, Nat.reduceLeDiff, ↓reduceIte, reduceCtorEq, Int.reduceAdd, Int.reduceSub, Int.reduceMul, Int.reduceNeg, Int.reduceToNat, List.reduceReplicate, String.reduceEq, c107]
    exact DFin.refl ⟨by rw [boundsC]; simp [c107], rfl⟩
  by_cases c101 : n = 101
  · simp (disch := omega) only [go_sem, Nat.reduceEqDiff, Nat.reduceAdd, Nat.reduceMul, Nat.reduceSub, Nat.reduceLeDiff, ↓reduceIte, reduceCtorEq, Int.reduceAdd, Int.reduceSub, Int.reduceMul, Int.reduceNeg, Int.reduceToNat, List.reduceReplicate, String.reduceEq, c101]
    exact DFin.refl ⟨by rw [boundsC]; simp [c101], rfl⟩
  by_cases c112 : n = 112
  · simp (disch := omega) only [go_sem, Nat.reduceEqDiff, Nat.reduceAdd, Nat.reduceMul, Nat.reduceSub, Nat.reduceLeDiff, ↓reduceIte, reduceCtorEq, Int.reduceAdd, Int.reduceSub, Int.reduceMul, Int.reduceNeg, Int.reduceToNat, List.reduceReplicate, String.reduceEq, c112]
    exact DFin.refl ⟨by rw [boundsC]; simp [c112], rfl⟩
  by_cases c113 : n = 113
  · simp (disch := omega) only [go_sem, Nat.reduceEqDiff, Nat.reduceAdd, Nat.reduceMul, Nat.reduceSub, Nat.reduceLeDiff, ↓reduceIte, reduceCtorEq, Int.reduceAdd, Int.reduceSub, Int.reduceMul, Int.reduceNeg, Int.reduceToNat, List.reduceReplicate, String.reduceEq, c113]
    exact DFin.refl ⟨by rw [boundsC]; simp [c113], rfl⟩
  by_cases c109 : n = 109
  · simp (disch := omega) only [go_sem, Nat.reduceEqDiff, Nat.reduceAdd, Nat.reduceMul, Nat.reduceSub, Nat.reduceLeDiff, ↓reduceIte, reduceCtorEq, Int.reduceAdd, Int.reduceSub, Int.reduceMul, Int.reduceNeg, Int.reduceToNat, List.reduceReplicate, String.reduceEq, c109]
    exact DFin.refl ⟨by rw [boundsC]; simp [c109], rfl⟩
  by_cases c106 : n = 106
  · simp (disch := omega) only [go_sem, Nat.reduceEqDiff, Nat.reduceAdd, Nat.reduceMul, Nat.reduceSub, Nat.reduceLeDiff, ↓reduceIte, reduceCtorEq, Int.reduceAdd, Int.reduceSub, Int.reduceMul, Int.reduceNeg, Int.reduceToNat, List.reduceReplicate, String.reduceEq, c106]
    exact DFin.refl ⟨by rw [boundsC]; simp [c106], rfl⟩
  by_cases c98 : n = 98
  · simp (disch := omega) only [go_sem, Nat.reduceEqDiff, Nat.reduceAdd, Nat.reduceMul, Nat.reduceSub, Nat.reduceLeDiff, ↓reduceIte, reduceCtorEq, Int.reduceAdd, Int.reduceSub, Int.reduceMul, Int.reduceNeg, Int.reduceToNat, List.reduceReplicate, String.reduceEq, c98]
    exact DFin.refl ⟨by rw [boundsC]; simp [c98], rfl⟩
  simp (disch := omega) only [go_sem, Nat.reduceEqDiff, Nat.reduceAdd, Nat.reduceMul, Nat.reduceSub, Nat.reduceLeDiff, ↓reduceIte, reduceCtorEq, Int.reduceAdd, Int.reduceSub, Int.reduceMul, Int.reduceNeg, Int.reduceToNat, List.reduceReplicate, String.reduceEq, c114, c111, c115, c108, c120, c107, c101, c112, c113, c109, c106, c98]
  exact DFin.refl ⟨by rw [boundsC]; simp [c114, c111, c115, c108, c120, c107, c101, c112, c113, c109, c106, c98], rfl⟩

/-- The words of the fields of an operation. -/
def wordT : List (List (UInt8 × UInt8)) := fieldS.map fun s => (Lib.fields s).map fun w => (w.getD 0 0, w.getD 1 0)
def fieldW (o : Int) : List (UInt8 × UInt8) := if isO o then wordT.getD (o.toNat - 1) [] else []
theorem fields_words (o : Int) : Lib.fields (rowAt o).2 = (fieldW o).map fun p => [p.1, p.2] := by
  unfold rowAt fieldW
  split
  · rename_i h
    simp [isO] at h
    have : ∀ i : Fin 57, Lib.fields (rowT.getD i ([], [])).2 = (wordT.getD i []).map fun p => [p.1, p.2] := by decide +kernel
    exact this ⟨o.toNat - 1, by omega⟩
  · rfl
theorem fieldsI_words (o : Int) : fieldsI o = (fieldW o).map fun p => ((p.1.toNat : Int), (boundsC p.2.toNat).1, (boundsC p.2.toNat).2) := by
  unfold fieldsI fieldW
  by_cases h : 1 ≤ o ∧ o ≤ 57
  · rw [if_pos h, if_pos (by simp [isO]; omega)]
    have : ∀ i : Fin 57, fieldT.getD i [] = (wordT.getD i []).map fun p => ((p.1.toNat : Int), (boundsC p.2.toNat).1, (boundsC p.2.toNat).2) := by decide +kernel
    exact this ⟨o.toNat - 1, by omega⟩
  · rw [if_neg h, if_neg (by simp [isO]; omega)]; rfl
theorem row_ascii (o : Int) : ∀ (j : Nat) b, (rowAt o).2[j]? = some b → b.toNat < 128 := by
  intro j b hb
  have hm := List.mem_of_getElem? hb
  unfold rowAt at hm
  split at hm
  · rename_i h
    simp [isO] at h
    have : ∀ i : Fin 57, ∀ b ∈ (rowT.getD i ([], [])).2, b.toNat < 128 := by decide +kernel
    exact this ⟨o.toNat - 1, by omega⟩ b hm
  · cases hm
theorem row_len (o : Int) : (rowAt o).2.length ≤ 20 := by
  unfold rowAt
  split
  · rename_i h
    simp [isO] at h
    have : ∀ i : Fin 57, (rowT.getD i ([], [])).2.length ≤ 20 := by decide +kernel
    exact this ⟨o.toNat - 1, by omega⟩
  · simp
theorem fieldW_len (o : Int) : (fieldW o).length ≤ 5 := by
  have := (fieldsI_ok o).1
  rw [fieldsI_words, List.length_map] at this; exact this

section
variable {G : Nat → DVal} {H : DHeap}
/-- strings.Fields: the words, as memory that lasts. -/
theorem flds_spec (hG : G 2 = .vptr (Lib.asciiSpaceTab.map fun z => .int .u8 z) 0) (s : List UInt8) (hs : s.length < 4294967281) (ha : ∀ (j : Nat) b, s[j]? = some b → b.toNat < 128) :
    DCalls Tryd.prog G 88 [.str s] H (DRet (dStrs (Lib.fields s)) H) := by
  refine ⟨Tryd.call88, fun vs w hv hH hg => ?_⟩
  simp only [RelL, Rel] at hv
  obtain ⟨_, _, rfl, rfl, rfl⟩ := hv
  refine (Tryd.strings_Fields ⟨⟨s⟩⟩ w hs ha (tab_is (show Tryd.prog.globalNamed "strings.asciiSpace" = some 2 by kernel_rfl) hg hG)).mono fun e w' ⟨he, hw⟩ => ?_
  subst he; subst hw
  have hq : RowKit.Below w.heap.size w (w.alloc (.cells ((Lib.fields s).map fun l => Value.string ⟨l.toArray⟩).toArray 9)) := RowKit.Below.alloc (RowKit.Below.refl _ _) (Nat.le_refl _) _
  obtain ⟨k1, k2⟩ := (Quiet.below hq).ext hH
  refine ⟨_, H, ⟨rfl, rfl⟩, .ret _ _ ?_, k1, k2⟩
  simp only [dStrs, Rel]
  refine ⟨_, _, by rfl, Nat.le_refl _, .inr ⟨w.heap.size, 0, (Lib.fields s).map fun l => Value.string ⟨l.toArray⟩, rfl, .inr ⟨?_, fun i x hx => ?_⟩, ?_⟩⟩
  · cases e : H w.heap.size with
    | none => rfl
    | some o => exact absurd (hH.lt (r := w.heap.size) (by simp [e])) (by omega)
  · rw [Nat.zero_add, World.cell?, World.alloc_heap_new]
    simpa using hx
  · refine RelL.mk (by simp) fun i d x h1 h2 => ?_
    simp only [List.getElem?_map, Option.map_eq_some_iff] at h1 h2
    obtain ⟨b1, q1, rfl⟩ := h1
    obtain ⟨b2, q2, rfl⟩ := h2
    rw [q1] at q2; cases q2
    simp [Rel]

def dInsn (x : Insn) : List DVal := [.int .u8 x.op, dI x.d, dI x.a, dI x.b, dI x.n, dI x.m, dI x.tt]
def offF (f : Int) : Nat := if f = 68 then 1 else if f = 65 then 2 else if f = 66 then 3 else if f = 78 then 4 else if f = 77 then 5 else 6
theorem dInsn_len (x : Insn) : (dInsn x).length = 7 := rfl
theorem isF_cases {f : Int} (h : isF f = true) : f = 68 ∨ f = 65 ∨ f = 66 ∨ f = 78 ∨ f = 77 ∨ f = 84 := by
  simpa [isF] using h
theorem get_cell {f : Int} (h : isF f = true) (x : Insn) : (dInsn x)[offF f]? = some (dI (getI x f)) := by
  rcases isF_cases h with rfl | rfl | rfl | rfl | rfl | rfl <;> rfl
theorem set_cell {f : Int} (h : isF f = true) (x : Insn) (v : Int) : splice (dInsn x) (offF f) [dI v] = dInsn (setI x f v) := by
  rcases isF_cases h with rfl | rfl | rfl | rfl | rfl | rfl <;> rfl
theorem off_lt {f : Int} (h : isF f = true) : offF f < 7 := by
  rcases isF_cases h with rfl | rfl | rfl | rfl | rfl | rfl <;> decide
def gFn (f : Int) : FuncId := if f = 78 ∨ f = 77 then 109 else 107
def sFn (f : Int) : FuncId := if f = 78 ∨ f = 77 then 110 else 108
/-- A field of the instruction in block rx. -/
def dFieldV (rx : Nat) (p : Int × Int × Int) : DVal := .agg [.func (.func (gFn p.1)) [] [.vptr [.optr rx (offF p.1)] 0], .func (.func (sFn p.1)) [] [.vptr [.optr rx (offF p.1)] 0], dI p.2.1, dI p.2.2]


theorem integer_spec {rx off : Nat} {cs : List DVal} {e : TypeId} {n : Int} (hr : H rx = some (.cells cs e)) (hn : cs[off]? = some (dI n)) : DCalls Tryd.prog G 107 ([] ++ [] ++ [.vptr [.optr rx off] 0]) H (DRet (dI n) H) := by
  refine dcalls_intro Tryd.func107 Tryd.call107 rfl (by kernel_rfl) ?_
  simp (disch := omega) only [go_sem, Nat.reduceEqDiff, Nat.reduceAdd, Nat.reduceMul, Nat.reduceSub, Nat.reduceLeDiff, ↓reduceIte, reduceCtorEq, Int.reduceAdd, Int.reduceSub, Int.reduceMul, Int.reduceNeg, Int.reduceToNat, List.reduceReplicate, String.reduceEq, hr, hn, List.nil_append]
  exact DFin.refl ⟨rfl, rfl⟩
theorem integers_spec {rx off : Nat} {cs : List DVal} {e : TypeId} (v : Int) (hr : H rx = some (.cells cs e)) (hn : off < cs.length) : DCalls Tryd.prog G 108 ([] ++ [dI v] ++ [.vptr [.optr rx off] 0]) H (fun x H' => x = .ret (.tuple []) ∧ H' = upd H rx (some (.cells (splice cs off [dI v]) e))) := by
  refine dcalls_intro Tryd.func108 Tryd.call108 rfl (by kernel_rfl) ?_
  simp (disch := omega) only [go_sem, Nat.reduceEqDiff, Nat.reduceAdd, Nat.reduceMul, Nat.reduceSub, Nat.reduceLeDiff, ↓reduceIte, reduceCtorEq, Int.reduceAdd, Int.reduceSub, Int.reduceMul, Int.reduceNeg, Int.reduceToNat, List.reduceReplicate, String.reduceEq, hr, hn, List.nil_append, List.cons_append]
  exact DFin.refl ⟨rfl, rfl⟩
theorem integerf_spec (rx off : Nat) : DCalls Tryd.prog G 89 [.optr rx off] H (DRet (.agg [.func (.func 107) [] [.vptr [.optr rx off] 0], .func (.func 108) [] [.vptr [.optr rx off] 0], dI 0, dI 0]) H) := by
  refine dcalls_intro Tryd.func89 Tryd.call89 rfl (by kernel_rfl) ?_
  simp (disch := omega) only [go_sem, Nat.reduceEqDiff, Nat.reduceAdd, Nat.reduceMul, Nat.reduceSub, Nat.reduceLeDiff, ↓reduceIte, reduceCtorEq, Int.reduceAdd, Int.reduceSub, Int.reduceMul, Int.reduceNeg, Int.reduceToNat, List.reduceReplicate, String.reduceEq]
  intro rb hb; dsimp only at hb
  simp (disch := omega) only [go_sem, Nat.reduceEqDiff, Nat.reduceAdd, Nat.reduceMul, Nat.reduceSub, Nat.reduceLeDiff, ↓reduceIte, reduceCtorEq, Int.reduceAdd, Int.reduceSub, Int.reduceMul, Int.reduceNeg, Int.reduceToNat, List.reduceReplicate, String.reduceEq]
  intro r2 hr2; dsimp only at hr2
  simp (disch := omega) only [go_sem, Nat.reduceEqDiff, Nat.reduceAdd, Nat.reduceMul, Nat.reduceSub, Nat.reduceLeDiff, ↓reduceIte, reduceCtorEq, Int.reduceAdd, Int.reduceSub, Int.reduceMul, Int.reduceNeg, Int.reduceToNat, List.reduceReplicate, String.reduceEq]
  refine DFin.dropA r2 hr2 (DFin.fzA rb hb ?_)
  simp (disch := omega) only [go_sem, Nat.reduceEqDiff, Nat.reduceAdd, Nat.reduceMul, Nat.reduceSub, Nat.reduceLeDiff, ↓reduceIte, reduceCtorEq, Int.reduceAdd, Int.reduceSub, Int.reduceMul, Int.reduceNeg, Int.reduceToNat, List.reduceReplicate, String.reduceEq]
  exact DFin.refl ⟨rfl, rfl⟩

theorem long_spec {rx off : Nat} {cs : List DVal} {e : TypeId} {n : Int} (hr : H rx = some (.cells cs e)) (hn : cs[off]? = some (dI n)) : DCalls Tryd.prog G 109 ([] ++ [] ++ [.vptr [.optr rx off] 0]) H (DRet (dI n) H) := by
  refine dcalls_intro Tryd.func109 Tryd.call109 rfl (by kernel_rfl) ?_
  simp (disch := omega) only [go_sem, Nat.reduceEqDiff, Nat.reduceAdd, Nat.reduceMul, Nat.reduceSub, Nat.reduceLeDiff, ↓reduceIte, reduceCtorEq, Int.reduceAdd, Int.reduceSub, Int.reduceMul, Int.reduceNeg, Int.reduceToNat, List.reduceReplicate, String.reduceEq, hr, hn, List.nil_append]
  exact DFin.refl ⟨rfl, rfl⟩
theorem longs_spec {rx off : Nat} {cs : List DVal} {e : TypeId} (v : Int) (hr : H rx = some (.cells cs e)) (hn : off < cs.length) : DCalls Tryd.prog G 110 ([] ++ [dI v] ++ [.vptr [.optr rx off] 0]) H (fun x H' => x = .ret (.tuple []) ∧ H' = upd H rx (some (.cells (splice cs off [dI v]) e))) := by
  refine dcalls_intro Tryd.func110 Tryd.call110 rfl (by kernel_rfl) ?_
  simp (disch := omega) only [go_sem, Nat.reduceEqDiff, Nat.reduceAdd, Nat.reduceMul, Nat.reduceSub, Nat.reduceLeDiff, ↓reduceIte, reduceCtorEq, Int.reduceAdd, Int.reduceSub, Int.reduceMul, Int.reduceNeg, Int.reduceToNat, List.reduceReplicate, String.reduceEq, hr, hn, List.nil_append, List.cons_append]
  exact DFin.refl ⟨rfl, rfl⟩
theorem longf_spec (rx off : Nat) : DCalls Tryd.prog G 90 [.optr rx off] H (DRet (.agg [.func (.func 109) [] [.vptr [.optr rx off] 0], .func (.func 110) [] [.vptr [.optr rx off] 0], dI 0, dI 0]) H) := by
  refine dcalls_intro Tryd.func90 Tryd.call90 rfl (by kernel_rfl) ?_
  simp (disch := omega) only [go_sem, Nat.reduceEqDiff, Nat.reduceAdd, Nat.reduceMul, Nat.reduceSub, Nat.reduceLeDiff, ↓reduceIte, reduceCtorEq, Int.reduceAdd, Int.reduceSub, Int.reduceMul, Int.reduceNeg, Int.reduceToNat, List.reduceReplicate, String.reduceEq]
  intro rb hb; dsimp only at hb
  simp (disch := omega) only [go_sem, Nat.reduceEqDiff, Nat.reduceAdd, Nat.reduceMul, Nat.reduceSub, Nat.reduceLeDiff, ↓reduceIte, reduceCtorEq, Int.reduceAdd, Int.reduceSub, Int.reduceMul, Int.reduceNeg, Int.reduceToNat, List.reduceReplicate, String.reduceEq]
  intro r2 hr2; dsimp only at hr2
  simp (disch := omega) only [go_sem, Nat.reduceEqDiff, Nat.reduceAdd, Nat.reduceMul, Nat.reduceSub, Nat.reduceLeDiff, ↓reduceIte, reduceCtorEq, Int.reduceAdd, Int.reduceSub, Int.reduceMul, Int.reduceNeg, Int.reduceToNat, List.reduceReplicate, String.reduceEq]
  refine DFin.dropA r2 hr2 (DFin.fzA rb hb ?_)
  simp (disch := omega) only [go_sem, Nat.reduceEqDiff, Nat.reduceAdd, Nat.reduceMul, Nat.reduceSub, Nat.reduceLeDiff, ↓reduceIte, reduceCtorEq, Int.reduceAdd, Int.reduceSub, Int.reduceMul, Int.reduceNeg, Int.reduceToNat, List.reduceReplicate, String.reduceEq]
  exact DFin.refl ⟨rfl, rfl⟩

theorem getF_spec {f : Int} (hf : isF f = true) {rx : Nat} {x : Insn} {e : TypeId} (hr : H rx = some (.cells (dInsn x) e)) : DCalls Tryd.prog G (gFn f) ([] ++ [] ++ [.vptr [.optr rx (offF f)] 0]) H (DRet (dI (getI x f)) H) := by
  unfold gFn
  split
  · exact long_spec hr (get_cell hf x)
  · exact integer_spec hr (get_cell hf x)
theorem setF_spec {f : Int} (hf : isF f = true) {rx : Nat} {x : Insn} {e : TypeId} (v : Int) (hr : H rx = some (.cells (dInsn x) e)) : DCalls Tryd.prog G (sFn f) ([] ++ [dI v] ++ [.vptr [.optr rx (offF f)] 0]) H (fun r H' => r = .ret (.tuple []) ∧ H' = upd H rx (some (.cells (dInsn (setI x f v)) e))) := by
  have h := off_lt hf
  unfold sFn
  split
  · have := longs_spec (G := G) (off := offF f) v hr (by rw [dInsn_len]; exact h); rwa [set_cell hf] at this
  · have := integers_spec (G := G) (off := offF f) v hr (by rw [dInsn_len]; exact h); rwa [set_cell hf] at this
theorem fieldsf_spec (rx : Nat) : DCalls Tryd.prog G 62 [.optr rx 0] H (DRet (.func (.func 87) [] [.vptr [.optr rx 0] 0]) H) := by
  refine dcalls_intro Tryd.func62 Tryd.call62 rfl (by kernel_rfl) ?_
  simp (disch := omega) only [go_sem, Nat.reduceEqDiff, Nat.reduceAdd, Nat.reduceMul, Nat.reduceSub, Nat.reduceLeDiff, ↓reduceIte, reduceCtorEq, Int.reduceAdd, Int.reduceSub, Int.reduceMul, Int.reduceNeg, Int.reduceToNat, List.reduceReplicate, String.reduceEq]
  intro rb hb; dsimp only at hb
  simp (disch := omega) only [go_sem, Nat.reduceEqDiff, Nat.reduceAdd, Nat.reduceMul, Nat.reduceSub, Nat.reduceLeDiff, ↓reduceIte, reduceCtorEq, Int.reduceAdd, Int.reduceSub, Int.reduceMul, Int.reduceNeg, Int.reduceToNat, List.reduceReplicate, String.reduceEq]
  refine DFin.fzA rb hb ?_
  simp (disch := omega) only [go_sem, Nat.reduceEqDiff, Nat.reduceAdd, Nat.reduceMul, Nat.reduceSub, Nat.reduceLeDiff, ↓reduceIte, reduceCtorEq, Int.reduceAdd, Int.reduceSub, Int.reduceMul, Int.reduceNeg, Int.reduceToNat, List.reduceReplicate, String.reduceEq]
  exact DFin.refl ⟨rfl, rfl⟩
end
end Go.Dl

-- Chapter 22: the iterator over an instruction's fields.
namespace Go.Dl
open Go Go.Proofs
set_option maxRecDepth 10000

/-- What the package's variables hold. -/
structure GI (G : Nat → DVal) : Prop where
  rows : G 1 = .vptr dRows 0
  pow : G 3 = .vptr dPw 0
  space : G 2 = .vptr (Lib.asciiSpaceTab.map fun z => .int .u8 z) 0
  gt : GT G

theorem sub_lift {Hi Hi' X : DHeap} (h : Sub Hi Hi') (hd : Disj Hi' X) : Sub (over Hi X) (over Hi' X) ∧ Disj Hi X := by
  refine ⟨fun b o hb => ?_, fun b hb => h.lo (hd b hb)⟩
  cases e : X b with
  | some o2 => rw [over_x e] at hb ⊢; exact hb
  | none => rw [over_hi e] at hb ⊢; exact h b o hb
set_option maxHeartbeats 4000000 in
theorem fields_iter {G : Nat → DVal} (hG : GI G) {rx : Nat} {x : Insn} (h0 : 0 ≤ x.op) (h1 : x.op < 256) {X : DHeap} (hX : X rx = some (.cells (dInsn x) 53)) :
    DIterX Tryd.prog G 87 [.vptr [.optr rx 0] 0] Dl.h0 ((fieldsI x.op).map fun p => [dFieldV rx p]) X := by
  intro l I Ix Hi d1 _ _ _ hHl hI hY
  rw [over_h0]
  have hrx : over Hi X rx = some (.cells (dInsn x) 53) := over_x hX
  obtain ⟨hp, hhp⟩ : ∃ hp, over Hi X = hp := ⟨_, rfl⟩
  rw [hhp] at hrx ⊢
  refine dcalls_intro Tryd.func87 Tryd.call87 rfl (by kernel_rfl) ?_
  simp (disch := omega) only [go_sem, Nat.reduceEqDiff, Nat.reduceAdd, Nat.reduceMul, Nat.reduceSub, Nat.reduceLeDiff, ↓reduceIte, reduceCtorEq, Int.reduceAdd, Int.reduceSub, Int.reduceMul, Int.reduceNeg, Int.reduceToNat, List.reduceReplicate, String.reduceEq, hrx, dInsn]
  refine (find_spec hG.rows hp x.op h0 h1).mono ?_
  rintro _ H1 ⟨rfl, rfl⟩
  simp (disch := omega) only [go_sem, Nat.reduceEqDiff, Nat.reduceAdd, Nat.reduceMul, Nat.reduceSub, Nat.reduceLeDiff, ↓reduceIte, reduceCtorEq, Int.reduceAdd, Int.reduceSub, Int.reduceMul, Int.reduceNeg, Int.reduceToNat, List.reduceReplicate, String.reduceEq, dRow, DVal.cells]
  intro r3 hr3; dsimp only at hr3
  simp (disch := omega) only [go_sem, Nat.reduceEqDiff, Nat.reduceAdd, Nat.reduceMul, Nat.reduceSub, Nat.reduceLeDiff, ↓reduceIte, reduceCtorEq, Int.reduceAdd, Int.reduceSub, Int.reduceMul, Int.reduceNeg, Int.reduceToNat, List.reduceReplicate, String.reduceEq]
  have hlen := row_len x.op
  refine (flds_spec hG.space (rowAt x.op).2 (by omega) (row_ascii x.op)).mono ?_
  rintro _ H1 ⟨rfl, rfl⟩
  rw [fields_words]
  have hwl := fieldW_len x.op
  rw [← hhp, over_eq_none] at hr3
  obtain ⟨hr3', hX3⟩ := hr3
  have hlr3 : l ≠ r3 := fun e => hHl (e ▸ hr3')
  simp (disch := omega) only [go_sem, Nat.reduceEqDiff, Nat.reduceAdd, Nat.reduceMul, Nat.reduceSub, Nat.reduceLeDiff, ↓reduceIte, reduceCtorEq, Int.reduceAdd, Int.reduceSub, Int.reduceMul, Int.reduceNeg, Int.reduceToNat, List.reduceReplicate, String.reduceEq, dStrs, List.length_map]
  obtain ⟨J, hJ⟩ : ∃ J : Nat → (Nat → DVal) → DHeap → Prop, ∀ k env heap, J k env heap ↔ (env 0 = .func (.yield l) [] [] ∧ env 1 = .vptr [.optr rx 0] 0 ∧ env 3 = .optr r3 0 ∧ env 18 = .vslice (((fieldW x.op).map fun p => [p.1, p.2]).map DVal.str) (fieldW x.op).length ∧ env 19 = dI (fieldW x.op).length ∧ env 20 = dI k ∧ k ≤ (fieldW x.op).length ∧ ∃ X, heap = over (upd Hi r3 (some (.cells [.str (rowAt x.op).1, .str (rowAt x.op).2] 124))) X ∧ Disj (upd Hi r3 (some (.cells [.str (rowAt x.op).1, .str (rowAt x.op).2] 124))) X ∧ I k X) := ⟨_, fun _ _ _ => Iff.rfl⟩
  refine DLoop.run J (fun k => (fieldW x.op).length - k) 0 ((hJ _ _ _).2 ?_) ?_
  · simp (disch := omega) only [go_sem, Nat.reduceEqDiff, Nat.reduceAdd, Nat.reduceMul, Nat.reduceSub, Nat.reduceLeDiff, ↓reduceIte, reduceCtorEq, Int.reduceAdd, Int.reduceSub, Int.reduceMul, Int.reduceNeg, Int.reduceToNat, List.reduceReplicate, String.reduceEq]
    (repeat' apply And.intro) <;> (try first | rfl | assumption | omega)
    exact ⟨X, by rw [← hhp, upd_over_lo hX3], d1.lo hX3 _, hI⟩
  · clear hI d1 hrx hX hX3
    intro k env heap hj
    obtain ⟨e0, e1, e3, e18, e19, e20, hk, X, hh, d1, hI⟩ := (hJ _ _ _).1 hj
    have hX3 : X r3 = none := d1.x (by simp [upd])
    by_cases hkn : k < (fieldW x.op).length
    · obtain ⟨p, hpw⟩ : ∃ p, p = (fieldW x.op)[k] := ⟨_, rfl⟩
      have hgw : (((fieldW x.op).map fun p => [p.1, p.2]).map DVal.str)[k]? = some (.str [p.1, p.2]) := by
        rw [List.map_map, List.getElem?_map, List.getElem?_eq_getElem hkn, hpw]; rfl
      have hfk : (fieldsI x.op)[k]? = some ((p.1.toNat : Int), (boundsC p.2.toNat).1, (boundsC p.2.toNat).2) := by
        rw [fieldsI_words, List.getElem?_map, List.getElem?_eq_getElem hkn, hpw]; rfl
      have hisF := ((fieldsI_ok x.op).2.2 _ (List.mem_of_getElem? hfk)).1
      dsimp only at hisF
      rcases isF_cases hisF with hf | hf | hf | hf | hf | hf
      · have hq : ((fieldsI x.op).map fun p => [dFieldV rx p])[k]? = some [.agg [.func (.func 107) [] [.vptr [.optr rx 1] 0], .func (.func 108) [] [.vptr [.optr rx 1] 0], dI (boundsC p.2.toNat).1, dI (boundsC p.2.toNat).2]] := by rw [List.getElem?_map, hfk, hf]; rfl
        simp (disch := omega) only [go_sem, Nat.reduceEqDiff, Nat.reduceAdd, Nat.reduceMul, Nat.reduceSub, Nat.reduceLeDiff, ↓reduceIte, reduceCtorEq, Int.reduceAdd, Int.reduceSub, Int.reduceMul, Int.reduceNeg, Int.reduceToNat, List.reduceReplicate, String.reduceEq, e0, e1, e3, e18, e19, e20, hkn, hgw, Option.map_some, hf]
        intro r7 hr7; dsimp only at hr7
        have hX7 : X r7 = none := by rw [hh] at hr7; exact (over_eq_none.1 hr7).2
        have hH7 : upd Hi r3 (some (.cells [.str (rowAt x.op).1, .str (rowAt x.op).2] 124)) r7 = none := by rw [hh] at hr7; exact (over_eq_none.1 hr7).1
        have hlr7 : l ≠ r7 := fun e => by rw [← e] at hH7; simp only [upd, if_neg hlr3] at hH7; exact hHl hH7
        simp (disch := omega) only [go_sem, Nat.reduceEqDiff, Nat.reduceAdd, Nat.reduceMul, Nat.reduceSub, Nat.reduceLeDiff, ↓reduceIte, reduceCtorEq, Int.reduceAdd, Int.reduceSub, Int.reduceMul, Int.reduceNeg, Int.reduceToNat, List.reduceReplicate, String.reduceEq, e0, e1, e3, e18, e19, e20, hkn, hgw, Option.map_some, hf]
        refine (integerf_spec (G := G) rx 1).mono ?_
        rintro _ H2 ⟨rfl, rfl⟩
        simp (disch := omega) only [go_sem, Nat.reduceEqDiff, Nat.reduceAdd, Nat.reduceMul, Nat.reduceSub, Nat.reduceLeDiff, ↓reduceIte, reduceCtorEq, Int.reduceAdd, Int.reduceSub, Int.reduceMul, Int.reduceNeg, Int.reduceToNat, List.reduceReplicate, String.reduceEq, e0, e1, e3, e18, e19, e20, hkn, hgw, Option.map_some, hf, DVal.cells]
        refine (bounds_spec G _ p.2.toNat (by omega) (by have := p.2.toNat_lt; omega)).mono ?_
        rintro _ H2 ⟨rfl, rfl⟩
        simp (disch := omega) only [go_sem, Nat.reduceEqDiff, Nat.reduceAdd, Nat.reduceMul, Nat.reduceSub, Nat.reduceLeDiff, ↓reduceIte, reduceCtorEq, Int.reduceAdd, Int.reduceSub, Int.reduceMul, Int.reduceNeg, Int.reduceToNat, List.reduceReplicate, String.reduceEq, e0, e1, e3, e18, e19, e20, hkn, hgw, Option.map_some, hf, DVal.cells]
        rw [hh, upd_over_lo hX7]
        refine (hY k _ _ X (d1.lo hX7 _) (by simp [upd, hlr7, hlr3]) hq hI).mono ?_
        rintro e1' H3 ⟨X', (⟨rfl, rfl, d2, hI2⟩ | ⟨rfl, o, ho, rfl, d2, hx2⟩)⟩
        · simp (disch := omega) only [go_sem, Nat.reduceEqDiff, Nat.reduceAdd, Nat.reduceMul, Nat.reduceSub, Nat.reduceLeDiff, ↓reduceIte, reduceCtorEq, Int.reduceAdd, Int.reduceSub, Int.reduceMul, Int.reduceNeg, Int.reduceToNat, List.reduceReplicate, String.reduceEq, e0, e1, e3, e18, e19, e20]
          have hX7' : X' r7 = none := d2.x (by simp [upd])
          refine ⟨k + 1, _, GhostS.drop _ r7, (hJ _ _ _).2 ?_, by omega⟩
          simp (disch := omega) only [go_sem, Nat.reduceEqDiff, Nat.reduceAdd, Nat.reduceMul, Nat.reduceSub, Nat.reduceLeDiff, ↓reduceIte, reduceCtorEq, Int.reduceAdd, Int.reduceSub, Int.reduceMul, Int.reduceNeg, Int.reduceToNat, List.reduceReplicate, String.reduceEq, e0, e1, e3, e18, e19, e20]
          (repeat' apply And.intro) <;> (try first | rfl | assumption | omega)
          refine ⟨X', ?_, ?_, hI2⟩
          · rw [upd_over_lo hX7', upd_idem, upd_self hH7]
          · have := d2.lo hX7' none; rwa [upd_idem, upd_self hH7] at this
        · simp (disch := omega) only [go_sem, Nat.reduceEqDiff, Nat.reduceAdd, Nat.reduceMul, Nat.reduceSub, Nat.reduceLeDiff, ↓reduceIte, reduceCtorEq, Int.reduceAdd, Int.reduceSub, Int.reduceMul, Int.reduceNeg, Int.reduceToNat, List.reduceReplicate, String.reduceEq, e0, e1, e3, e18, e19, e20]
          obtain ⟨k1, k2⟩ := sub_lift (Hi := upd Hi l o) ((((Sub.refl Hi).up hr3' _).up (upd_eq_none.1 hH7).2.2 _).both l o) d2
          exact DFin.sub k1 (DFin.refl ⟨⟨_, rfl⟩, X', .inr ⟨o, ho, rfl, k2, hx2⟩⟩)
      · have hq : ((fieldsI x.op).map fun p => [dFieldV rx p])[k]? = some [.agg [.func (.func 107) [] [.vptr [.optr rx 2] 0], .func (.func 108) [] [.vptr [.optr rx 2] 0], dI (boundsC p.2.toNat).1, dI (boundsC p.2.toNat).2]] := by rw [List.getElem?_map, hfk, hf]; rfl
        simp (disch := omega) only [go_sem, Nat.reduceEqDiff, Nat.reduceAdd, Nat.reduceMul, Nat.reduceSub, Nat.reduceLeDiff, ↓reduceIte, reduceCtorEq, Int.reduceAdd, Int.reduceSub, Int.reduceMul, Int.reduceNeg, Int.reduceToNat, List.reduceReplicate, String.reduceEq, e0, e1, e3, e18, e19, e20, hkn, hgw, Option.map_some, hf]
        intro r7 hr7; dsimp only at hr7
        have hX7 : X r7 = none := by rw [hh] at hr7; exact (over_eq_none.1 hr7).2
        have hH7 : upd Hi r3 (some (.cells [.str (rowAt x.op).1, .str (rowAt x.op).2] 124)) r7 = none := by rw [hh] at hr7; exact (over_eq_none.1 hr7).1
        have hlr7 : l ≠ r7 := fun e => by rw [← e] at hH7; simp only [upd, if_neg hlr3] at hH7; exact hHl hH7
        simp (disch := omega) only [go_sem, Nat.reduceEqDiff, Nat.reduceAdd, Nat.reduceMul, Nat.reduceSub, Nat.reduceLeDiff, ↓reduceIte, reduceCtorEq, Int.reduceAdd, Int.reduceSub, Int.reduceMul, Int.reduceNeg, Int.reduceToNat, List.reduceReplicate, String.reduceEq, e0, e1, e3, e18, e19, e20, hkn, hgw, Option.map_some, hf]
        refine (integerf_spec (G := G) rx 2).mono ?_
        rintro _ H2 ⟨rfl, rfl⟩
        simp (disch := omega) only [go_sem, Nat.reduceEqDiff, Nat.reduceAdd, Nat.reduceMul, Nat.reduceSub, Nat.reduceLeDiff, ↓reduceIte, reduceCtorEq, Int.reduceAdd, Int.reduceSub, Int.reduceMul, Int.reduceNeg, Int.reduceToNat, List.reduceReplicate, String.reduceEq, e0, e1, e3, e18, e19, e20, hkn, hgw, Option.map_some, hf, DVal.cells]
        refine (bounds_spec G _ p.2.toNat (by omega) (by have := p.2.toNat_lt; omega)).mono ?_
        rintro _ H2 ⟨rfl, rfl⟩
        simp (disch := omega) only [go_sem, Nat.reduceEqDiff, Nat.reduceAdd, Nat.reduceMul, Nat.reduceSub, Nat.reduceLeDiff, ↓reduceIte, reduceCtorEq, Int.reduceAdd, Int.reduceSub, Int.reduceMul, Int.reduceNeg, Int.reduceToNat, List.reduceReplicate, String.reduceEq, e0, e1, e3, e18, e19, e20, hkn, hgw, Option.map_some, hf, DVal.cells]
        rw [hh, upd_over_lo hX7]
        refine (hY k _ _ X (d1.lo hX7 _) (by simp [upd, hlr7, hlr3]) hq hI).mono ?_
        rintro e1' H3 ⟨X', (⟨rfl, rfl, d2, hI2⟩ | ⟨rfl, o, ho, rfl, d2, hx2⟩)⟩
        · simp (disch := omega) only [go_sem, Nat.reduceEqDiff, Nat.reduceAdd, Nat.reduceMul, Nat.reduceSub, Nat.reduceLeDiff, ↓reduceIte, reduceCtorEq, Int.reduceAdd, Int.reduceSub, Int.reduceMul, Int.reduceNeg, Int.reduceToNat, List.reduceReplicate, String.reduceEq, e0, e1, e3, e18, e19, e20]
          have hX7' : X' r7 = none := d2.x (by simp [upd])
          refine ⟨k + 1, _, GhostS.drop _ r7, (hJ _ _ _).2 ?_, by omega⟩
          simp (disch := omega) only [go_sem, Nat.reduceEqDiff, Nat.reduceAdd, Nat.reduceMul, Nat.reduceSub, Nat.reduceLeDiff, ↓reduceIte, reduceCtorEq, Int.reduceAdd, Int.reduceSub, Int.reduceMul, Int.reduceNeg, Int.reduceToNat, List.reduceReplicate, String.reduceEq, e0, e1, e3, e18, e19, e20]
          (repeat' apply And.intro) <;> (try first | rfl | assumption | omega)
          refine ⟨X', ?_, ?_, hI2⟩
          · rw [upd_over_lo hX7', upd_idem, upd_self hH7]
          · have := d2.lo hX7' none; rwa [upd_idem, upd_self hH7] at this
        · simp (disch := omega) only [go_sem, Nat.reduceEqDiff, Nat.reduceAdd, Nat.reduceMul, Nat.reduceSub, Nat.reduceLeDiff, ↓reduceIte, reduceCtorEq, Int.reduceAdd, Int.reduceSub, Int.reduceMul, Int.reduceNeg, Int.reduceToNat, List.reduceReplicate, String.reduceEq, e0, e1, e3, e18, e19, e20]
          obtain ⟨k1, k2⟩ := sub_lift (Hi := upd Hi l o) ((((Sub.refl Hi).up hr3' _).up (upd_eq_none.1 hH7).2.2 _).both l o) d2
          exact DFin.sub k1 (DFin.refl ⟨⟨_, rfl⟩, X', .inr ⟨o, ho, rfl, k2, hx2⟩⟩)
      · have hq : ((fieldsI x.op).map fun p => [dFieldV rx p])[k]? = some [.agg [.func (.func 107) [] [.vptr [.optr rx 3] 0], .func (.func 108) [] [.vptr [.optr rx 3] 0], dI (boundsC p.2.toNat).1, dI (boundsC p.2.toNat).2]] := by rw [List.getElem?_map, hfk, hf]; rfl
        simp (disch := omega) only [go_sem, Nat.reduceEqDiff, Nat.reduceAdd, Nat.reduceMul, Nat.reduceSub, Nat.reduceLeDiff, ↓reduceIte, reduceCtorEq, Int.reduceAdd, Int.reduceSub, Int.reduceMul, Int.reduceNeg, Int.reduceToNat, List.reduceReplicate, String.reduceEq, e0, e1, e3, e18, e19, e20, hkn, hgw, Option.map_some, hf]
        intro r7 hr7; dsimp only at hr7
        have hX7 : X r7 = none := by rw [hh] at hr7; exact (over_eq_none.1 hr7).2
        have hH7 : upd Hi r3 (some (.cells [.str (rowAt x.op).1, .str (rowAt x.op).2] 124)) r7 = none := by rw [hh] at hr7; exact (over_eq_none.1 hr7).1
        have hlr7 : l ≠ r7 := fun e => by rw [← e] at hH7; simp only [upd, if_neg hlr3] at hH7; exact hHl hH7
        simp (disch := omega) only [go_sem, Nat.reduceEqDiff, Nat.reduceAdd, Nat.reduceMul, Nat.reduceSub, Nat.reduceLeDiff, ↓reduceIte, reduceCtorEq, Int.reduceAdd, Int.reduceSub, Int.reduceMul, Int.reduceNeg, Int.reduceToNat, List.reduceReplicate, String.reduceEq, e0, e1, e3, e18, e19, e20, hkn, hgw, Option.map_some, hf]
        refine (integerf_spec (G := G) rx 3).mono ?_
        rintro _ H2 ⟨rfl, rfl⟩
        simp (disch := omega) only [go_sem, Nat.reduceEqDiff, Nat.reduceAdd, Nat.reduceMul, Nat.reduceSub, Nat.reduceLeDiff, ↓reduceIte, reduceCtorEq, Int.reduceAdd, Int.reduceSub, Int.reduceMul, Int.reduceNeg, Int.reduceToNat, List.reduceReplicate, String.reduceEq, e0, e1, e3, e18, e19, e20, hkn, hgw, Option.map_some, hf, DVal.cells]
        refine (bounds_spec G _ p.2.toNat (by omega) (by have := p.2.toNat_lt; omega)).mono ?_
        rintro _ H2 ⟨rfl, rfl⟩
        simp (disch := omega) only [go_sem, Nat.reduceEqDiff, Nat.reduceAdd, Nat.reduceMul, Nat.reduceSub, Nat.reduceLeDiff, ↓reduceIte, reduceCtorEq, Int.reduceAdd, Int.reduceSub, Int.reduceMul, Int.reduceNeg, Int.reduceToNat, List.reduceReplicate, String.reduceEq, e0, e1, e3, e18, e19, e20, hkn, hgw, Option.map_some, hf, DVal.cells]
        rw [hh, upd_over_lo hX7]
        refine (hY k _ _ X (d1.lo hX7 _) (by simp [upd, hlr7, hlr3]) hq hI).mono ?_
        rintro e1' H3 ⟨X', (⟨rfl, rfl, d2, hI2⟩ | ⟨rfl, o, ho, rfl, d2, hx2⟩)⟩
        · simp (disch := omega) only [go_sem, Nat.reduceEqDiff, Nat.reduceAdd, Nat.reduceMul, Nat.reduceSub, Nat.reduceLeDiff, ↓reduceIte, reduceCtorEq, Int.reduceAdd, Int.reduceSub, Int.reduceMul, Int.reduceNeg, Int.reduceToNat, List.reduceReplicate, String.reduceEq, e0, e1, e3, e18, e19, e20]
          have hX7' : X' r7 = none := d2.x (by simp [upd])
          refine ⟨k + 1, _, GhostS.drop _ r7, (hJ _ _ _).2 ?_, by omega⟩
          simp (disch := omega) only [go_sem, Nat.reduceEqDiff, Nat.reduceAdd, Nat.reduceMul, Nat.reduceSub, Nat.reduceLeDiff, ↓reduceIte, reduceCtorEq, Int.reduceAdd, Int.reduceSub, Int.reduceMul, Int.reduceNeg, Int.reduceToNat, List.reduceReplicate, String.reduceEq, e0, e1, e3, e18, e19, e20]
          (repeat' apply And.intro) <;> (try first | rfl | assumption | omega)
          refine ⟨X', ?_, ?_, hI2⟩
          · rw [upd_over_lo hX7', upd_idem, upd_self hH7]
          · have := d2.lo hX7' none; rwa [upd_idem, upd_self hH7] at this
        · simp (disch := omega) only [go_sem, Nat.reduceEqDiff, Nat.reduceAdd, Nat.reduceMul, Nat.reduceSub, Nat.reduceLeDiff, ↓reduceIte, reduceCtorEq, Int.reduceAdd, Int.reduceSub, Int.reduceMul, Int.reduceNeg, Int.reduceToNat, List.reduceReplicate, String.reduceEq, e0, e1, e3, e18, e19, e20]
          obtain ⟨k1, k2⟩ := sub_lift (Hi := upd Hi l o) ((((Sub.refl Hi).up hr3' _).up (upd_eq_none.1 hH7).2.2 _).both l o) d2
          exact DFin.sub k1 (DFin.refl ⟨⟨_, rfl⟩, X', .inr ⟨o, ho, rfl, k2, hx2⟩⟩)
      · have hq : ((fieldsI x.op).map fun p => [dFieldV rx p])[k]? = some [.agg [.func (.func 109) [] [.vptr [.optr rx 4] 0], .func (.func 110) [] [.vptr [.optr rx 4] 0], dI (boundsC p.2.toNat).1, dI (boundsC p.2.toNat).2]] := by rw [List.getElem?_map, hfk, hf]; rfl
        simp (disch := omega) only [go_sem, Nat.reduceEqDiff, Nat.reduceAdd, Nat.reduceMul, Nat.reduceSub, Nat.reduceLeDiff, ↓reduceIte, reduceCtorEq, Int.reduceAdd, Int.reduceSub, Int.reduceMul, Int.reduceNeg, Int.reduceToNat, List.reduceReplicate, String.reduceEq, e0, e1, e3, e18, e19, e20, hkn, hgw, Option.map_some, hf]
        intro r7 hr7; dsimp only at hr7
        have hX7 : X r7 = none := by rw [hh] at hr7; exact (over_eq_none.1 hr7).2
        have hH7 : upd Hi r3 (some (.cells [.str (rowAt x.op).1, .str (rowAt x.op).2] 124)) r7 = none := by rw [hh] at hr7; exact (over_eq_none.1 hr7).1
        have hlr7 : l ≠ r7 := fun e => by rw [← e] at hH7; simp only [upd, if_neg hlr3] at hH7; exact hHl hH7
        simp (disch := omega) only [go_sem, Nat.reduceEqDiff, Nat.reduceAdd, Nat.reduceMul, Nat.reduceSub, Nat.reduceLeDiff, ↓reduceIte, reduceCtorEq, Int.reduceAdd, Int.reduceSub, Int.reduceMul, Int.reduceNeg, Int.reduceToNat, List.reduceReplicate, String.reduceEq, e0, e1, e3, e18, e19, e20, hkn, hgw, Option.map_some, hf]
        refine (longf_spec (G := G) rx 4).mono ?_
        rintro _ H2 ⟨rfl, rfl⟩
        simp (disch := omega) only [go_sem, Nat.reduceEqDiff, Nat.reduceAdd, Nat.reduceMul, Nat.reduceSub, Nat.reduceLeDiff, ↓reduceIte, reduceCtorEq, Int.reduceAdd, Int.reduceSub, Int.reduceMul, Int.reduceNeg, Int.reduceToNat, List.reduceReplicate, String.reduceEq, e0, e1, e3, e18, e19, e20, hkn, hgw, Option.map_some, hf, DVal.cells]
        refine (bounds_spec G _ p.2.toNat (by omega) (by have := p.2.toNat_lt; omega)).mono ?_
        rintro _ H2 ⟨rfl, rfl⟩
        simp (disch := omega) only [go_sem, Nat.reduceEqDiff, Nat.reduceAdd, Nat.reduceMul, Nat.reduceSub, Nat.reduceLeDiff, ↓reduceIte, reduceCtorEq, Int.reduceAdd, Int.reduceSub, Int.reduceMul, Int.reduceNeg, Int.reduceToNat, List.reduceReplicate, String.reduceEq, e0, e1, e3, e18, e19, e20, hkn, hgw, Option.map_some, hf, DVal.cells]
        rw [hh, upd_over_lo hX7]
        refine (hY k _ _ X (d1.lo hX7 _) (by simp [upd, hlr7, hlr3]) hq hI).mono ?_
        rintro e1' H3 ⟨X', (⟨rfl, rfl, d2, hI2⟩ | ⟨rfl, o, ho, rfl, d2, hx2⟩)⟩
        · simp (disch := omega) only [go_sem, Nat.reduceEqDiff, Nat.reduceAdd, Nat.reduceMul, Nat.reduceSub, Nat.reduceLeDiff, ↓reduceIte, reduceCtorEq, Int.reduceAdd, Int.reduceSub, Int.reduceMul, Int.reduceNeg, Int.reduceToNat, List.reduceReplicate, String.reduceEq, e0, e1, e3, e18, e19, e20]
          have hX7' : X' r7 = none := d2.x (by simp [upd])
          refine ⟨k + 1, _, GhostS.drop _ r7, (hJ _ _ _).2 ?_, by omega⟩
          simp (disch := omega) only [go_sem, Nat.reduceEqDiff, Nat.reduceAdd, Nat.reduceMul, Nat.reduceSub, Nat.reduceLeDiff, ↓reduceIte, reduceCtorEq, Int.reduceAdd, Int.reduceSub, Int.reduceMul, Int.reduceNeg, Int.reduceToNat, List.reduceReplicate, String.reduceEq, e0, e1, e3, e18, e19, e20]
          (repeat' apply And.intro) <;> (try first | rfl | assumption | omega)
          refine ⟨X', ?_, ?_, hI2⟩
          · rw [upd_over_lo hX7', upd_idem, upd_self hH7]
          · have := d2.lo hX7' none; rwa [upd_idem, upd_self hH7] at this
        · simp (disch := omega) only [go_sem, Nat.reduceEqDiff, Nat.reduceAdd, Nat.reduceMul, Nat.reduceSub, Nat.reduceLeDiff, ↓reduceIte, reduceCtorEq, Int.reduceAdd, Int.reduceSub, Int.reduceMul, Int.reduceNeg, Int.reduceToNat, List.reduceReplicate, String.reduceEq, e0, e1, e3, e18, e19, e20]
          obtain ⟨k1, k2⟩ := sub_lift (Hi := upd Hi l o) ((((Sub.refl Hi).up hr3' _).up (upd_eq_none.1 hH7).2.2 _).both l o) d2
          exact DFin.sub k1 (DFin.refl ⟨⟨_, rfl⟩, X', .inr ⟨o, ho, rfl, k2, hx2⟩⟩)
      · have hq : ((fieldsI x.op).map fun p => [dFieldV rx p])[k]? = some [.agg [.func (.func 109) [] [.vptr [.optr rx 5] 0], .func (.func 110) [] [.vptr [.optr rx 5] 0], dI (boundsC p.2.toNat).1, dI (boundsC p.2.toNat).2]] := by rw [List.getElem?_map, hfk, hf]; rfl
        simp (disch := omega) only [go_sem, Nat.reduceEqDiff, Nat.reduceAdd, Nat.reduceMul, Nat.reduceSub, Nat.reduceLeDiff, ↓reduceIte, reduceCtorEq, Int.reduceAdd, Int.reduceSub, Int.reduceMul, Int.reduceNeg, Int.reduceToNat, List.reduceReplicate, String.reduceEq, e0, e1, e3, e18, e19, e20, hkn, hgw, Option.map_some, hf]
        intro r7 hr7; dsimp only at hr7
        have hX7 : X r7 = none := by rw [hh] at hr7; exact (over_eq_none.1 hr7).2
        have hH7 : upd Hi r3 (some (.cells [.str (rowAt x.op).1, .str (rowAt x.op).2] 124)) r7 = none := by rw [hh] at hr7; exact (over_eq_none.1 hr7).1
        have hlr7 : l ≠ r7 := fun e => by rw [← e] at hH7; simp only [upd, if_neg hlr3] at hH7; exact hHl hH7
        simp (disch := omega) only [go_sem, Nat.reduceEqDiff, Nat.reduceAdd, Nat.reduceMul, Nat.reduceSub, Nat.reduceLeDiff, ↓reduceIte, reduceCtorEq, Int.reduceAdd, Int.reduceSub, Int.reduceMul, Int.reduceNeg, Int.reduceToNat, List.reduceReplicate, String.reduceEq, e0, e1, e3, e18, e19, e20, hkn, hgw, Option.map_some, hf]
        refine (longf_spec (G := G) rx 5).mono ?_
        rintro _ H2 ⟨rfl, rfl⟩
        simp (disch := omega) only [go_sem, Nat.reduceEqDiff, Nat.reduceAdd, Nat.reduceMul, Nat.reduceSub, Nat.reduceLeDiff, ↓reduceIte, reduceCtorEq, Int.reduceAdd, Int.reduceSub, Int.reduceMul, Int.reduceNeg, Int.reduceToNat, List.reduceReplicate, String.reduceEq, e0, e1, e3, e18, e19, e20, hkn, hgw, Option.map_some, hf, DVal.cells]
        refine (bounds_spec G _ p.2.toNat (by omega) (by have := p.2.toNat_lt; omega)).mono ?_
        rintro _ H2 ⟨rfl, rfl⟩
        simp (disch := omega) only [go_sem, Nat.reduceEqDiff, Nat.reduceAdd, Nat.reduceMul, Nat.reduceSub, Nat.reduceLeDiff, ↓reduceIte, reduceCtorEq, Int.reduceAdd, Int.reduceSub, Int.reduceMul, Int.reduceNeg, Int.reduceToNat, List.reduceReplicate, String.reduceEq, e0, e1, e3, e18, e19, e20, hkn, hgw, Option.map_some, hf, DVal.cells]
        rw [hh, upd_over_lo hX7]
        refine (hY k _ _ X (d1.lo hX7 _) (by simp [upd, hlr7, hlr3]) hq hI).mono ?_
        rintro e1' H3 ⟨X', (⟨rfl, rfl, d2, hI2⟩ | ⟨rfl, o, ho, rfl, d2, hx2⟩)⟩
        · simp (disch := omega) only [go_sem, Nat.reduceEqDiff, Nat.reduceAdd, Nat.reduceMul, Nat.reduceSub, Nat.reduceLeDiff, ↓reduceIte, reduceCtorEq, Int.reduceAdd, Int.reduceSub, Int.reduceMul, Int.reduceNeg, Int.reduceToNat, List.reduceReplicate, String.reduceEq, e0, e1, e3, e18, e19, e20]
          have hX7' : X' r7 = none := d2.x (by simp [upd])
          refine ⟨k + 1, _, GhostS.drop _ r7, (hJ _ _ _).2 ?_, by omega⟩
          simp (disch := omega) only [go_sem, Nat.reduceEqDiff, Nat.reduceAdd, Nat.reduceMul, Nat.reduceSub, Nat.reduceLeDiff, ↓reduceIte, reduceCtorEq, Int.reduceAdd, Int.reduceSub, Int.reduceMul, Int.reduceNeg, Int.reduceToNat, List.reduceReplicate, String.reduceEq, e0, e1, e3, e18, e19, e20]
          (repeat' apply And.intro) <;> (try first | rfl | assumption | omega)
          refine ⟨X', ?_, ?_, hI2⟩
          · rw [upd_over_lo hX7', upd_idem, upd_self hH7]
          · have := d2.lo hX7' none; rwa [upd_idem, upd_self hH7] at this
        · simp (disch := omega) only [go_sem, Nat.reduceEqDiff, Nat.reduceAdd, Nat.reduceMul, Nat.reduceSub, Nat.reduceLeDiff, ↓reduceIte, reduceCtorEq, Int.reduceAdd, Int.reduceSub, Int.reduceMul, Int.reduceNeg, Int.reduceToNat, List.reduceReplicate, String.reduceEq, e0, e1, e3, e18, e19, e20]
          obtain ⟨k1, k2⟩ := sub_lift (Hi := upd Hi l o) ((((Sub.refl Hi).up hr3' _).up (upd_eq_none.1 hH7).2.2 _).both l o) d2
          exact DFin.sub k1 (DFin.refl ⟨⟨_, rfl⟩, X', .inr ⟨o, ho, rfl, k2, hx2⟩⟩)
      · have hq : ((fieldsI x.op).map fun p => [dFieldV rx p])[k]? = some [.agg [.func (.func 107) [] [.vptr [.optr rx 6] 0], .func (.func 108) [] [.vptr [.optr rx 6] 0], dI (boundsC p.2.toNat).1, dI (boundsC p.2.toNat).2]] := by rw [List.getElem?_map, hfk, hf]; rfl
        simp (disch := omega) only [go_sem, Nat.reduceEqDiff, Nat.reduceAdd, Nat.reduceMul, Nat.reduceSub, Nat.reduceLeDiff, ↓reduceIte, reduceCtorEq, Int.reduceAdd, Int.reduceSub, Int.reduceMul, Int.reduceNeg, Int.reduceToNat, List.reduceReplicate, String.reduceEq, e0, e1, e3, e18, e19, e20, hkn, hgw, Option.map_some, hf]
        intro r7 hr7; dsimp only at hr7
        have hX7 : X r7 = none := by rw [hh] at hr7; exact (over_eq_none.1 hr7).2
        have hH7 : upd Hi r3 (some (.cells [.str (rowAt x.op).1, .str (rowAt x.op).2] 124)) r7 = none := by rw [hh] at hr7; exact (over_eq_none.1 hr7).1
        have hlr7 : l ≠ r7 := fun e => by rw [← e] at hH7; simp only [upd, if_neg hlr3] at hH7; exact hHl hH7
        simp (disch := omega) only [go_sem, Nat.reduceEqDiff, Nat.reduceAdd, Nat.reduceMul, Nat.reduceSub, Nat.reduceLeDiff, ↓reduceIte, reduceCtorEq, Int.reduceAdd, Int.reduceSub, Int.reduceMul, Int.reduceNeg, Int.reduceToNat, List.reduceReplicate, String.reduceEq, e0, e1, e3, e18, e19, e20, hkn, hgw, Option.map_some, hf]
        refine (integerf_spec (G := G) rx 6).mono ?_
        rintro _ H2 ⟨rfl, rfl⟩
        simp (disch := omega) only [go_sem, Nat.reduceEqDiff, Nat.reduceAdd, Nat.reduceMul, Nat.reduceSub, Nat.reduceLeDiff, ↓reduceIte, reduceCtorEq, Int.reduceAdd, Int.reduceSub, Int.reduceMul, Int.reduceNeg, Int.reduceToNat, List.reduceReplicate, String.reduceEq, e0, e1, e3, e18, e19, e20, hkn, hgw, Option.map_some, hf, DVal.cells]
        refine (bounds_spec G _ p.2.toNat (by omega) (by have := p.2.toNat_lt; omega)).mono ?_
        rintro _ H2 ⟨rfl, rfl⟩
        simp (disch := omega) only [go_sem, Nat.reduceEqDiff, Nat.reduceAdd, Nat.reduceMul, Nat.reduceSub, Nat.reduceLeDiff, ↓reduceIte, reduceCtorEq, Int.reduceAdd, Int.reduceSub, Int.reduceMul, Int.reduceNeg, Int.reduceToNat, List.reduceReplicate, String.reduceEq, e0, e1, e3, e18, e19, e20, hkn, hgw, Option.map_some, hf, DVal.cells]
        rw [hh, upd_over_lo hX7]
        refine (hY k _ _ X (d1.lo hX7 _) (by simp [upd, hlr7, hlr3]) hq hI).mono ?_
        rintro e1' H3 ⟨X', (⟨rfl, rfl, d2, hI2⟩ | ⟨rfl, o, ho, rfl, d2, hx2⟩)⟩
        · simp (disch := omega) only [go_sem, Nat.reduceEqDiff, Nat.reduceAdd, Nat.reduceMul, Nat.reduceSub, Nat.reduceLeDiff, ↓reduceIte, reduceCtorEq, Int.reduceAdd, Int.reduceSub, Int.reduceMul, Int.reduceNeg, Int.reduceToNat, List.reduceReplicate, String.reduceEq, e0, e1, e3, e18, e19, e20]
          have hX7' : X' r7 = none := d2.x (by simp [upd])
          refine ⟨k + 1, _, GhostS.drop _ r7, (hJ _ _ _).2 ?_, by omega⟩
          simp (disch := omega) only [go_sem, Nat.reduceEqDiff, Nat.reduceAdd, Nat.reduceMul, Nat.reduceSub, Nat.reduceLeDiff, ↓reduceIte, reduceCtorEq, Int.reduceAdd, Int.reduceSub, Int.reduceMul, Int.reduceNeg, Int.reduceToNat, List.reduceReplicate, String.reduceEq, e0, e1, e3, e18, e19, e20]
          (repeat' apply And.intro) <;> (try first | rfl | assumption | omega)
          refine ⟨X', ?_, ?_, hI2⟩
          · rw [upd_over_lo hX7', upd_idem, upd_self hH7]
          · have := d2.lo hX7' none; rwa [upd_idem, upd_self hH7] at this
        · simp (disch := omega) only [go_sem, Nat.reduceEqDiff, Nat.reduceAdd, Nat.reduceMul, Nat.reduceSub, Nat.reduceLeDiff, ↓reduceIte, reduceCtorEq, Int.reduceAdd, Int.reduceSub, Int.reduceMul, Int.reduceNeg, Int.reduceToNat, List.reduceReplicate, String.reduceEq, e0, e1, e3, e18, e19, e20]
          obtain ⟨k1, k2⟩ := sub_lift (Hi := upd Hi l o) ((((Sub.refl Hi).up hr3' _).up (upd_eq_none.1 hH7).2.2 _).both l o) d2
          exact DFin.sub k1 (DFin.refl ⟨⟨_, rfl⟩, X', .inr ⟨o, ho, rfl, k2, hx2⟩⟩)
    · have : k = (fieldW x.op).length := by omega
      subst this
      simp (disch := omega) only [go_sem, Nat.reduceEqDiff, Nat.reduceAdd, Nat.reduceMul, Nat.reduceSub, Nat.reduceLeDiff, ↓reduceIte, reduceCtorEq, Int.reduceAdd, Int.reduceSub, Int.reduceMul, Int.reduceNeg, Int.reduceToNat, List.reduceReplicate, String.reduceEq, e0, e1, e3, e18, e19, e20]
      rw [hh]
      obtain ⟨k1, k2⟩ := sub_lift ((Sub.refl Hi).up hr3' _) d1
      refine DFin.sub k1 (DFin.refl ⟨⟨_, rfl⟩, X, .inl ⟨rfl, k2, ?_⟩⟩)
      rw [fieldsI_words, List.length_map]; exact hI
end Go.Dl

-- Chapter 22: Value, With, May of the reference.
namespace Go.Dl
open Go Go.Proofs
set_option maxRecDepth 10000

theorem value_spec (G : Nat → DVal) (H : DHeap) (x : Insn) (f : Int) (hf : isF f = true) : DCalls Tryd.prog G 63 [.agg (dInsn x), .int .u8 f] H (DRet (dI (getI x f)) H) := by
  refine dcalls_intro Tryd.func63 Tryd.call63 rfl (by kernel_rfl) ?_
  simp (disch := omega) only [go_sem, Nat.reduceEqDiff, Nat.reduceAdd, Nat.reduceMul, Nat.reduceSub, Nat.reduceLeDiff, ↓reduceIte, reduceCtorEq, Int.reduceAdd, Int.reduceSub, Int.reduceMul, Int.reduceNeg, Int.reduceToNat, List.reduceReplicate, String.reduceEq, DVal.cells]
  intro r hr; dsimp only at hr
  rcases isF_cases hf with hf | hf | hf | hf | hf | hf <;> subst hf <;> (simp (disch := omega) only [go_sem, Nat.reduceEqDiff, Nat.reduceAdd, Nat.reduceMul, Nat.reduceSub, Nat.reduceLeDiff, ↓reduceIte, reduceCtorEq, Int.reduceAdd, Int.reduceSub, Int.reduceMul, Int.reduceNeg, Int.reduceToNat, List.reduceReplicate, String.reduceEq, dInsn]) <;> exact DFin.dropA r hr (DFin.refl ⟨rfl, rfl⟩)
theorem with_spec (G : Nat → DVal) (H : DHeap) (x : Insn) (f v : Int) (hf : isF f = true) : DCalls Tryd.prog G 67 [.agg (dInsn x), .int .u8 f, dI v] H (DRet (.agg (dInsn (setI x f v))) H) := by
  refine dcalls_intro Tryd.func67 Tryd.call67 rfl (by kernel_rfl) ?_
  simp (disch := omega) only [go_sem, Nat.reduceEqDiff, Nat.reduceAdd, Nat.reduceMul, Nat.reduceSub, Nat.reduceLeDiff, ↓reduceIte, reduceCtorEq, Int.reduceAdd, Int.reduceSub, Int.reduceMul, Int.reduceNeg, Int.reduceToNat, List.reduceReplicate, String.reduceEq, DVal.cells]
  intro r hr; dsimp only at hr
  simp (disch := omega) only [go_sem, Nat.reduceEqDiff, Nat.reduceAdd, Nat.reduceMul, Nat.reduceSub, Nat.reduceLeDiff, ↓reduceIte, reduceCtorEq, Int.reduceAdd, Int.reduceSub, Int.reduceMul, Int.reduceNeg, Int.reduceToNat, List.reduceReplicate, String.reduceEq]
  intro r2 hr2; dsimp only at hr2
  obtain ⟨m2, m1, hr2'⟩ := upd_eq_none.1 hr2
  rcases isF_cases hf with hf | hf | hf | hf | hf | hf <;> subst hf <;> (simp (disch := omega) only [go_sem, Nat.reduceEqDiff, Nat.reduceAdd, Nat.reduceMul, Nat.reduceSub, Nat.reduceLeDiff, ↓reduceIte, reduceCtorEq, Int.reduceAdd, Int.reduceSub, Int.reduceMul, Int.reduceNeg, Int.reduceToNat, List.reduceReplicate, String.reduceEq, dInsn, m1, m2, List.drop_succ_cons, List.drop_nil, List.append_nil]) <;> exact DFin.sub (show Sub H _ from (by repeat (first | exact Sub.refl _ | assumption | refine Sub.up ?_ (by assumption) _))) (DFin.refl ⟨rfl, rfl⟩)

theorem andO_and (a b : Bool) : andO (some a) (some b) = some (a && b) := by cases a <;> rfl
theorem eq_insn (a b : Insn) : dEqT Tryd.prog 6 53 (dInsn a) (dInsn b) = some (decide (a = b)) := by
  have e : (decide (a = b)) = (decide (a.op = b.op) && (decide (a.d = b.d) && (decide (a.a = b.a) && (decide (a.b = b.b) && (decide (a.n = b.n) && (decide (a.m = b.m) && decide (a.tt = b.tt))))))) := by
    cases a; cases b
    simp only [Insn.mk.injEq, Bool.decide_and]
  rw [e]
  simp (disch := omega) only [go_sem, Nat.reduceEqDiff, Nat.reduceAdd, Nat.reduceMul, Nat.reduceSub, Nat.reduceLeDiff, ↓reduceIte, reduceCtorEq, Int.reduceAdd, Int.reduceSub, Int.reduceMul, Int.reduceNeg, Int.reduceToNat, List.reduceReplicate, String.reduceEq, dInsn, dEqT, dEqTu, dEqTr, dEqFs, dEqTi, partCells, List.drop_succ_cons, List.drop_zero, List.take_succ_cons, List.take_zero]
  simp only [andO_and, Bool.and_true]
theorem agg_insn : aggB Tryd.prog 53 = some true := by kernel_rfl
theorem guard_insn : Tryd.prog.eqGuardType Tryd.prog.depth 53 = false := by kernel_rfl

/-- Without the operation. -/
def noOp (x : Insn) : Insn := { x with op := 0 }
theorem noOp_set (x : Insn) (f v : Int) : setI (noOp x) f v = noOp (setI x f v) := by
  unfold setI noOp
  (repeat' split) <;> rfl
theorem noOp_zero {x : Insn} (fs : List (Int × Int × Int)) : decide (noOp (zeroI fs x) = op0 0) = decide (zeroI fs x = op0 x.op) := by
  have h := zero_op fs x
  generalize zeroI fs x = y at h
  rw [decide_eq_decide]
  cases y; cases x
  simp only at h
  subst h
  simp [noOp, op0]
theorem zero_take {fs : List (Int × Int × Int)} {k : Nat} {p : Int × Int × Int} (h : fs[k]? = some p) (x : Insn) : zeroI (fs.take (k + 1)) x = setI (zeroI (fs.take k) x) p.1 0 := by
  rw [List.take_add_one, h]
  simp [zeroI]
theorem inI_false {fs : List (Int × Int × Int)} {k : Nat} {p : Int × Int × Int} (h : fs[k]? = some p) {x : Insn} (hb : ¬ (p.2.1 ≤ getI x p.1 ∧ getI x p.1 ≤ p.2.2)) : inI fs x = false := by
  rw [inI, List.all_eq_false]
  exact ⟨p, List.mem_of_getElem? h, by simpa using hb⟩
theorem inI_take {fs : List (Int × Int × Int)} {k : Nat} {p : Int × Int × Int} (h : fs[k]? = some p) {x : Insn} (h0 : inI (fs.take k) x = true) (hb : p.2.1 ≤ getI x p.1 ∧ getI x p.1 ≤ p.2.2) : inI (fs.take (k + 1)) x = true := by
  rw [List.take_add_one, h]
  unfold inI at h0 ⊢
  rw [List.all_append, h0]
  simp [hb.1, hb.2]
theorem rrAt_fields (o : Int) : (rrAt o).2.2 = fieldsI o := by
  cases h : isO o with
  | false =>
    rw [rrAt_out h, fieldsI, if_neg]
    simp [isO] at h
    omega
  | true =>
    obtain ⟨i, hi, rfl⟩ := isO_in h
    rw [rrAt_at hi]
theorem rrAt_op {o : Int} (h : isO o = true) : (rrAt o).1 = o ∧ (rrAt o).2.1 = nameC o.toNat := by
  obtain ⟨i, hi, rfl⟩ := isO_in h
  rw [rrAt_at hi]
  exact ⟨rfl, by congr 1⟩
theorem dRRow_at (o : Int) : dRRow (rrAt o) = [.int .u8 (rrAt o).1, .str (rrAt o).2.1, .vslice ((fieldsI o).flatMap dFld) (fieldsI o).length] := by
  rw [dRRow, rrAt_fields]

set_option maxHeartbeats 4000000 in
theorem rmayI_spec (G : Nat → DVal) (H : DHeap) (x : Insn) (h0 : 0 ≤ x.op) (h1 : x.op < 256) : DCalls Tryd.prog G 34 [.agg (dInsn x)] H (DRet (.bool (mayI x)) H) := by
  obtain ⟨hfl, _, hfok⟩ := fieldsI_ok x.op
  refine dcalls_intro Tryd.func34 Tryd.call34 rfl (by kernel_rfl) ?_
  simp (disch := omega) only [go_sem, Nat.reduceEqDiff, Nat.reduceAdd, Nat.reduceMul, Nat.reduceSub, Nat.reduceLeDiff, ↓reduceIte, reduceCtorEq, Int.reduceAdd, Int.reduceSub, Int.reduceMul, Int.reduceNeg, Int.reduceToNat, List.reduceReplicate, String.reduceEq, DVal.cells]
  intro r1 hr1; dsimp only at hr1
  have hx0 : (dInsn x)[0]? = some (.int .u8 x.op) := rfl
  simp (disch := omega) only [go_sem, Nat.reduceEqDiff, Nat.reduceAdd, Nat.reduceMul, Nat.reduceSub, Nat.reduceLeDiff, ↓reduceIte, reduceCtorEq, Int.reduceAdd, Int.reduceSub, Int.reduceMul, Int.reduceNeg, Int.reduceToNat, List.reduceReplicate, String.reduceEq, hx0]
  refine (rfind_spec G _ x.op h0 h1).mono ?_
  rintro _ H1 ⟨rfl, rfl⟩
  rw [dRRow_at]
  simp (disch := omega) only [go_sem, Nat.reduceEqDiff, Nat.reduceAdd, Nat.reduceMul, Nat.reduceSub, Nat.reduceLeDiff, ↓reduceIte, reduceCtorEq, Int.reduceAdd, Int.reduceSub, Int.reduceMul, Int.reduceNeg, Int.reduceToNat, List.reduceReplicate, String.reduceEq, DVal.cells]
  intro r3 hr3; dsimp only at hr3
  obtain ⟨m2, m1, hr3'⟩ := upd_eq_none.1 hr3
  cases ho : isO x.op with
  | false =>
    simp (disch := omega) only [go_sem, Nat.reduceEqDiff, Nat.reduceAdd, Nat.reduceMul, Nat.reduceSub, Nat.reduceLeDiff, ↓reduceIte, reduceCtorEq, Int.reduceAdd, Int.reduceSub, Int.reduceMul, Int.reduceNeg, Int.reduceToNat, List.reduceReplicate, String.reduceEq, m1, m2]
    refine DFin.sub (show Sub H _ from (by repeat (first | exact Sub.refl _ | assumption | refine Sub.up ?_ (by assumption) _))) (DFin.refl ⟨?_, rfl⟩)
    have : mayI x = false := by
      cases hm : mayI x with
      | false => rfl
      | true => have := mayI_at hm; simp [isO] at ho; omega
    rw [this]
  | true =>
    have hop : 1 ≤ x.op ∧ x.op ≤ 57 := by simpa [isO] using ho
    simp (disch := omega) only [go_sem, Nat.reduceEqDiff, Nat.reduceAdd, Nat.reduceMul, Nat.reduceSub, Nat.reduceLeDiff, ↓reduceIte, reduceCtorEq, Int.reduceAdd, Int.reduceSub, Int.reduceMul, Int.reduceNeg, Int.reduceToNat, List.reduceReplicate, String.reduceEq, m1, m2, dInsn]
    rw [show [DVal.int IntKind.u8 x.op, dI x.d, dI x.a, dI x.b, dI x.n, dI x.m, dI x.tt] = dInsn x from rfl]
    intro r5 hr5; dsimp only at hr5
    obtain ⟨m4, m3, hr5a⟩ := upd_eq_none.1 hr5
    obtain ⟨m6, m5, hr5'⟩ := upd_eq_none.1 hr5a
    simp (disch := omega) only [go_sem, Nat.reduceEqDiff, Nat.reduceAdd, Nat.reduceMul, Nat.reduceSub, Nat.reduceLeDiff, ↓reduceIte, reduceCtorEq, Int.reduceAdd, Int.reduceSub, Int.reduceMul, Int.reduceNeg, Int.reduceToNat, List.reduceReplicate, String.reduceEq, m1, m2, m3, m4, m5, m6, dInsn]
    obtain ⟨fs, hfs⟩ : ∃ fs, fs = fieldsI x.op := ⟨_, rfl⟩
    rw [← hfs] at hfl hfok ⊢
    have hmv : inI fs x = true → mayI x = (decide (zeroI fs x = op0 x.op) && (decide (x.op ≠ 27) || decide (x.n ≤ x.m)) && (decide (x.op ≠ 37) || decide (x.n ≠ 6) || decide (x.m = 0))) := fun h => by
      rw [mayI, ← hfs, h, decide_eq_true hop.1, decide_eq_true hop.2]; simp only [Bool.true_and]
    have hmf : inI fs x = false → mayI x = false := fun h => by rw [mayI, ← hfs, h]; simp
    have hdt : (dInsn x).take 7 = dInsn x := rfl
    have hz : [DVal.int IntKind.u8 0, DVal.int IntKind.i64 0, DVal.int IntKind.i64 0, DVal.int IntKind.i64 0, DVal.int IntKind.i64 0, DVal.int IntKind.i64 0, DVal.int IntKind.i64 0] = dInsn (op0 0) := rfl
    have hx4 : (dInsn x)[4]? = some (dI x.n) := rfl
    have hx5 : (dInsn x)[5]? = some (dI x.m) := rfl
    obtain ⟨I, hI⟩ : ∃ I : Nat → (Nat → DVal) → DHeap → Prop, ∀ k env heap, I k env heap ↔ (env 1 = .optr r1 0 ∧ env 3 = .optr r3 0 ∧ env 5 = .optr r5 0 ∧ env 6 = dI k ∧ k ≤ fs.length ∧ inI (fs.take k) x = true ∧ heap = upd (upd (upd H r1 (some (DObj.cells (dInsn x) 53))) r3 (some (DObj.cells [.int .u8 (rrAt x.op).1, .str (rrAt x.op).2.1, .vslice (fs.flatMap dFld) fs.length] 65))) r5 (some (DObj.cells (dInsn (noOp (zeroI (fs.take k) x))) 53))) := ⟨_, fun _ _ _ => Iff.rfl⟩
    refine DLoop.run I (fun k => fs.length - k) 0 ((hI _ _ _).2 ?_) ?_
    · simp (disch := omega) only [go_sem, Nat.reduceEqDiff, Nat.reduceAdd, Nat.reduceMul, Nat.reduceSub, Nat.reduceLeDiff, ↓reduceIte, reduceCtorEq, Int.reduceAdd, Int.reduceSub, Int.reduceMul, Int.reduceNeg, Int.reduceToNat, List.reduceReplicate, String.reduceEq]
      (repeat' apply And.intro) <;> (try first | rfl | assumption | omega)
    · intro k env heap hi
      obtain ⟨e1, e3, e5, e6, hk, hin, rfl⟩ := (hI _ _ _).1 hi
      by_cases hlt : k < fs.length
      · have hfk := List.getElem?_eq_getElem hlt
        have hgr := flat_el dFld_length fs k hlt
        obtain ⟨p, hp⟩ : ∃ p, fs[k] = p := ⟨_, rfl⟩
        rw [hp] at hfk hgr
        have hpF := (hfok p (List.mem_of_getElem? hfk)).1
        simp (disch := omega) only [go_sem, Nat.reduceEqDiff, Nat.reduceAdd, Nat.reduceMul, Nat.reduceSub, Nat.reduceLeDiff, ↓reduceIte, reduceCtorEq, Int.reduceAdd, Int.reduceSub, Int.reduceMul, Int.reduceNeg, Int.reduceToNat, List.reduceReplicate, String.reduceEq, e1, e3, e5, e6, hlt, flat_len dFld_length, hgr, dFld, m1, m2, m3, m4, m5, m6, hdt, dInsn_len, DVal.cells]
        intro r7 hr7; dsimp only at hr7
        obtain ⟨n2, n1, hr7a⟩ := upd_eq_none.1 hr7
        obtain ⟨n4, n3, hr7b⟩ := upd_eq_none.1 hr7a
        obtain ⟨n6, n5, hr7'⟩ := upd_eq_none.1 hr7b
        simp (disch := omega) only [go_sem, Nat.reduceEqDiff, Nat.reduceAdd, Nat.reduceMul, Nat.reduceSub, Nat.reduceLeDiff, ↓reduceIte, reduceCtorEq, Int.reduceAdd, Int.reduceSub, Int.reduceMul, Int.reduceNeg, Int.reduceToNat, List.reduceReplicate, String.reduceEq, e1, e3, e5, e6, m1, m2, m3, m4, m5, m6, n1, n2, n3, n4, n5, n6, hdt, dInsn_len, DVal.cells]
        refine (value_spec G _ x p.1 hpF).mono ?_
        rintro _ H1 ⟨rfl, rfl⟩
        by_cases c1 : getI x p.1 < p.2.1
        · simp (disch := omega) only [go_sem, Nat.reduceEqDiff, Nat.reduceAdd, Nat.reduceMul, Nat.reduceSub, Nat.reduceLeDiff, ↓reduceIte, reduceCtorEq, Int.reduceAdd, Int.reduceSub, Int.reduceMul, Int.reduceNeg, Int.reduceToNat, List.reduceReplicate, String.reduceEq, e1, e3, e5, e6, c1, m1, m2, m3, m4, m5, m6, n1, n2, n3, n4, n5, n6, List.drop_succ_cons, List.drop_zero, List.drop_nil]
          refine DFin.sub (show Sub H _ from (by repeat (first | exact Sub.refl _ | assumption | refine Sub.up ?_ (by assumption) _))) (DFin.refl ⟨?_, rfl⟩)
          rw [hmf (inI_false hfk (by omega))]
        by_cases c2 : p.2.2 < getI x p.1
        · simp (disch := omega) only [go_sem, Nat.reduceEqDiff, Nat.reduceAdd, Nat.reduceMul, Nat.reduceSub, Nat.reduceLeDiff, ↓reduceIte, reduceCtorEq, Int.reduceAdd, Int.reduceSub, Int.reduceMul, Int.reduceNeg, Int.reduceToNat, List.reduceReplicate, String.reduceEq, e1, e3, e5, e6, c1, c2, m1, m2, m3, m4, m5, m6, n1, n2, n3, n4, n5, n6]
          refine DFin.sub (show Sub H _ from (by repeat (first | exact Sub.refl _ | assumption | refine Sub.up ?_ (by assumption) _))) (DFin.refl ⟨?_, rfl⟩)
          rw [hmf (inI_false hfk (by omega))]
        have hdt2 : (dInsn (noOp (zeroI (fs.take k) x))).take 7 = dInsn (noOp (zeroI (fs.take k) x)) := rfl
        simp (disch := omega) only [go_sem, Nat.reduceEqDiff, Nat.reduceAdd, Nat.reduceMul, Nat.reduceSub, Nat.reduceLeDiff, ↓reduceIte, reduceCtorEq, Int.reduceAdd, Int.reduceSub, Int.reduceMul, Int.reduceNeg, Int.reduceToNat, List.reduceReplicate, String.reduceEq, e1, e3, e5, e6, c1, c2, m1, m2, m3, m4, m5, m6, n1, n2, n3, n4, n5, n6, hdt2, dInsn_len]
        refine (with_spec G _ (noOp (zeroI (fs.take k) x)) p.1 0 hpF).mono ?_
        rintro _ H1 ⟨rfl, rfl⟩
        rw [noOp_set, ← zero_take hfk]
        have hone : ∀ y, (dInsn y).all (fun d => d.one) = true := fun _ => rfl
        have hdr : ∀ y, (dInsn y).drop 7 = [] := fun _ => rfl
        simp (disch := omega) only [go_sem, Nat.reduceEqDiff, Nat.reduceAdd, Nat.reduceMul, Nat.reduceSub, Nat.reduceLeDiff, ↓reduceIte, reduceCtorEq, Int.reduceAdd, Int.reduceSub, Int.reduceMul, Int.reduceNeg, Int.reduceToNat, List.reduceReplicate, String.reduceEq, e1, e3, e5, e6, m1, m2, m3, m4, m5, m6, n1, n2, n3, n4, n5, n6, dInsn_len, DVal.cells, hone, hdr, List.append_nil]
        refine ⟨k + 1, _, GhostS.drop _ r7, (hI _ _ _).2 ?_, by omega⟩
        simp (disch := omega) only [go_sem, Nat.reduceEqDiff, Nat.reduceAdd, Nat.reduceMul, Nat.reduceSub, Nat.reduceLeDiff, ↓reduceIte, reduceCtorEq, Int.reduceAdd, Int.reduceSub, Int.reduceMul, Int.reduceNeg, Int.reduceToNat, List.reduceReplicate, String.reduceEq, e1, e3, e5, e6]
        (repeat' apply And.intro) <;> (try first | rfl | assumption | omega)
        · exact inI_take hfk hin (by omega)
        · rw [upd_swap n1, upd_upd, upd_upd, upd_self]
          exact upd_eq_none.2 ⟨n2, n1, hr7a⟩
      · have hkl : k = fs.length := by omega
        subst hkl
        rw [List.take_length] at hin ⊢
        have hmv' := hmv hin
        rw [← noOp_zero] at hmv'
        have hdt2 : (dInsn (noOp (zeroI fs x))).take 7 = dInsn (noOp (zeroI fs x)) := rfl
        by_cases c1 : noOp (zeroI fs x) = op0 0
        · have hc1 := decide_eq_true c1
          by_cases c2 : x.op = 27
          · have c4 : ¬ x.op = 37 := by omega
            by_cases c3 : x.n ≤ x.m
            · simp (disch := omega) only [go_sem, Nat.reduceEqDiff, Nat.reduceAdd, Nat.reduceMul, Nat.reduceSub, Nat.reduceLeDiff, ↓reduceIte, reduceCtorEq, Int.reduceAdd, Int.reduceSub, Int.reduceMul, Int.reduceNeg, Int.reduceToNat, List.reduceReplicate, String.reduceEq, e1, e3, e5, e6, hlt, m1, m2, m3, m4, m5, m6, hdt2, dInsn_len, hz, agg_eq agg_insn guard_insn (eq_insn (noOp (zeroI fs x)) (op0 0)), hc1, c2, c3, hx0, hx4, hx5]
              refine DFin.sub (show Sub H _ from (by repeat (first | exact Sub.refl _ | assumption | refine Sub.up ?_ (by assumption) _))) (DFin.refl ⟨by rw [hmv']; simp [c1, c2, c3], rfl⟩)
            · simp (disch := omega) only [go_sem, Nat.reduceEqDiff, Nat.reduceAdd, Nat.reduceMul, Nat.reduceSub, Nat.reduceLeDiff, ↓reduceIte, reduceCtorEq, Int.reduceAdd, Int.reduceSub, Int.reduceMul, Int.reduceNeg, Int.reduceToNat, List.reduceReplicate, String.reduceEq, e1, e3, e5, e6, hlt, m1, m2, m3, m4, m5, m6, hdt2, dInsn_len, hz, agg_eq agg_insn guard_insn (eq_insn (noOp (zeroI fs x)) (op0 0)), hc1, c2, c3, hx0, hx4, hx5]
              refine DFin.sub (show Sub H _ from (by repeat (first | exact Sub.refl _ | assumption | refine Sub.up ?_ (by assumption) _))) (DFin.refl ⟨by rw [hmv']; simp [c1, c2, c3], rfl⟩)
          · by_cases c4 : x.op = 37
            · by_cases c5 : x.n = 6
              · by_cases c6 : x.m = 0
                · simp (disch := omega) only [go_sem, Nat.reduceEqDiff, Nat.reduceAdd, Nat.reduceMul, Nat.reduceSub, Nat.reduceLeDiff, ↓reduceIte, reduceCtorEq, Int.reduceAdd, Int.reduceSub, Int.reduceMul, Int.reduceNeg, Int.reduceToNat, List.reduceReplicate, String.reduceEq, e1, e3, e5, e6, hlt, m1, m2, m3, m4, m5, m6, hdt2, dInsn_len, hz, agg_eq agg_insn guard_insn (eq_insn (noOp (zeroI fs x)) (op0 0)), hc1, c2, c4, c5, c6, hx0, hx4, hx5]
                  refine DFin.sub (show Sub H _ from (by repeat (first | exact Sub.refl _ | assumption | refine Sub.up ?_ (by assumption) _))) (DFin.refl ⟨by rw [hmv']; simp [c1, c2, c4, c5, c6], rfl⟩)
                · simp (disch := omega) only [go_sem, Nat.reduceEqDiff, Nat.reduceAdd, Nat.reduceMul, Nat.reduceSub, Nat.reduceLeDiff, ↓reduceIte, reduceCtorEq, Int.reduceAdd, Int.reduceSub, Int.reduceMul, Int.reduceNeg, Int.reduceToNat, List.reduceReplicate, String.reduceEq, e1, e3, e5, e6, hlt, m1, m2, m3, m4, m5, m6, hdt2, dInsn_len, hz, agg_eq agg_insn guard_insn (eq_insn (noOp (zeroI fs x)) (op0 0)), hc1, c2, c4, c5, c6, hx0, hx4, hx5]
                  refine DFin.sub (show Sub H _ from (by repeat (first | exact Sub.refl _ | assumption | refine Sub.up ?_ (by assumption) _))) (DFin.refl ⟨by rw [hmv']; simp [c1, c2, c4, c5, c6], rfl⟩)
              · simp (disch := omega) only [go_sem, Nat.reduceEqDiff, Nat.reduceAdd, Nat.reduceMul, Nat.reduceSub, Nat.reduceLeDiff, ↓reduceIte, reduceCtorEq, Int.reduceAdd, Int.reduceSub, Int.reduceMul, Int.reduceNeg, Int.reduceToNat, List.reduceReplicate, String.reduceEq, e1, e3, e5, e6, hlt, m1, m2, m3, m4, m5, m6, hdt2, dInsn_len, hz, agg_eq agg_insn guard_insn (eq_insn (noOp (zeroI fs x)) (op0 0)), hc1, c2, c4, c5, hx0, hx4, hx5]
                refine DFin.sub (show Sub H _ from (by repeat (first | exact Sub.refl _ | assumption | refine Sub.up ?_ (by assumption) _))) (DFin.refl ⟨by rw [hmv']; simp [c1, c2, c4, c5], rfl⟩)
            · simp (disch := omega) only [go_sem, Nat.reduceEqDiff, Nat.reduceAdd, Nat.reduceMul, Nat.reduceSub, Nat.reduceLeDiff, ↓reduceIte, reduceCtorEq, Int.reduceAdd, Int.reduceSub, Int.reduceMul, Int.reduceNeg, Int.reduceToNat, List.reduceReplicate, String.reduceEq, e1, e3, e5, e6, hlt, m1, m2, m3, m4, m5, m6, hdt2, dInsn_len, hz, agg_eq agg_insn guard_insn (eq_insn (noOp (zeroI fs x)) (op0 0)), hc1, c2, c4, hx0, hx4, hx5]
              refine DFin.sub (show Sub H _ from (by repeat (first | exact Sub.refl _ | assumption | refine Sub.up ?_ (by assumption) _))) (DFin.refl ⟨by rw [hmv']; simp [c1, c2, c4], rfl⟩)
        · have hc1 := decide_eq_false c1
          simp (disch := omega) only [go_sem, Nat.reduceEqDiff, Nat.reduceAdd, Nat.reduceMul, Nat.reduceSub, Nat.reduceLeDiff, ↓reduceIte, reduceCtorEq, Int.reduceAdd, Int.reduceSub, Int.reduceMul, Int.reduceNeg, Int.reduceToNat, List.reduceReplicate, String.reduceEq, e1, e3, e5, e6, hlt, m1, m2, m3, m4, m5, m6, hdt2, dInsn_len, hz, agg_eq agg_insn guard_insn (eq_insn (noOp (zeroI fs x)) (op0 0)), hc1, hx0, hx4, hx5]
          refine DFin.sub (show Sub H _ from (by repeat (first | exact Sub.refl _ | assumption | refine Sub.up ?_ (by assumption) _))) (DFin.refl ⟨by rw [hmv']; simp [c1], rfl⟩)
end Go.Dl
