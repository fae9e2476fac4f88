/- The data level and the contracts of the functions that are reached (part 12). -/
import Derived.Test.YtfekogpdmjbdkaaGreatDoorPtk
set_option linter.unusedSimpArgs false
set_option linter.unusedVariables false
set_option linter.unusedSectionVars false
-- Chapter 3: the reference's tokens of an expression.
namespace Go.Dl
open Go Go.Proofs
set_option maxRecDepth 100000
theorem wt_dot : wTok wDot = sTok wDot := by rw [wTok, show kindW wDot = 4 by decide +kernel]; rfl
theorem wt_dots : wTok wDots = sTok wDots := by rw [wTok, show kindW wDots = 4 by decide +kernel]; rfl
theorem wt_tick : wTok wTick = sTok wTick := by rw [wTok, show kindW wTick = 4 by decide +kernel]; rfl
theorem wt_open : wTok wOpen = sTok wOpen := by rw [wTok, show kindW wOpen = 4 by decide +kernel]; rfl
theorem wt_shut : wTok wShut = sTok wShut := by rw [wTok, show kindW wShut = 4 by decide +kernel]; rfl
theorem wt_all : wTok wAll = kTok wAll := by rw [wTok, show kindW wAll = 2 by decide +kernel]; rfl
theorem wt_null : wTok wNull = kTok wNull := by rw [wTok, show kindW wNull = 2 by decide +kernel]; rfl
theorem wt_if : wTok wIf = kTok wIf := by rw [wTok, show kindW wIf = 2 by decide +kernel]; rfl
theorem wt_then : wTok wThen = kTok wThen := by rw [wTok, show kindW wThen = 2 by decide +kernel]; rfl
theorem wt_else : wTok wElse = kTok wElse := by rw [wTok, show kindW wElse = 2 by decide +kernel]; rfl
theorem wt_in : wTok wIn = kTok wIn := by rw [wTok, show kindW wIn = 2 by decide +kernel]; rfl
theorem wt_not : wTok wNot = kTok wNot := by rw [wTok, show kindW wNot = 2 by decide +kernel]; rfl
section
variable {G : Nat → DVal}
set_option maxHeartbeats 16000000 in
theorem rall_step (G : Nat → DVal) (e : Ex) (hf : fieldsE e = true) (hlen : (toksE e).length ≤ 100000) (ih : ∀ x ∈ parts e, AllOk Tryz.prog G 87 x) (H : DHeap) :
  DCalls Tryz.prog G 87 [.agg (dEx e)] H (DRet (dToks (toksE e)) H) := by
 have hfl := flat_len dEx_len e.l;have hlv := level_ge e;refine dcalls_intro Tryz.func87 Tryz.call87 rfl (by kernel_rfl) ?_;simp (disch := omega) only [go_sem, DVal.cells];intro r2 hr2; dsimp only at hr2;obtain ⟨K, hK⟩ : ∃ K', K' = upd H r2 (some (.cells (dEx e) 27)) := ⟨_, rfl⟩;rw [← hK];have g2 : K r2 = some (.cells (dEx e) 27) := by rw [hK]; exact upd_same _ _ _
 have hs : Sub H K := by rw [hK]; exact (Sub.refl H).new hr2 _
 simp (disch := omega) only [go_sem, g2];by_cases hk : e.kind = 1
 ·have ht : toksE e = [inTok e.n] := toks1 hk;rw [ht];simp (disch := omega) only [go_sem, hk, g2];intro q1 hq1; dsimp only at hq1;have nq1 : r2 ≠ q1 := none_ne hq1 g2;try simp (disch := omega) only [go_sem, g2, nq1, dTok, repl1, repl2, repl3, List.length_cons, List.length_nil, List.drop_succ_cons, List.drop_zero, List.drop_nil, List.cons_append, List.nil_append, List.append_nil]
  refine DCalls.monoR (one1 G K (inTok e.n) hq1) ?_;try simp (disch := omega) only [go_sem, g2, dTok]
  exact DFin.sub hs (.refl ⟨rfl, rfl⟩)
 have z1 := hk; clear hk;by_cases hk : e.kind = 2
 ·have ht : toksE e = [kTok wNull] := by rw [toks2 hk, wt_null]
  rw [ht];simp (disch := omega) only [go_sem, hk, g2];refine DCalls.monoR (wkey_spec G K wNull) ?_;try simp (disch := omega) only [go_sem, g2, dTok]
  intro q1 hq1; dsimp only at hq1;have nq1 : r2 ≠ q1 := none_ne hq1 g2;try simp (disch := omega) only [go_sem, g2, nq1, dTok, repl1, repl2, repl3, List.length_cons, List.length_nil, List.drop_succ_cons, List.drop_zero, List.drop_nil, List.cons_append, List.nil_append, List.append_nil]
  refine DCalls.monoR (one1 G K (kTok wNull) hq1) ?_;try simp (disch := omega) only [go_sem, g2, dTok]
  exact DFin.sub hs (.refl ⟨rfl, rfl⟩)
 have z2 := hk; clear hk;by_cases hk : e.kind = 3
 ·have ht : toksE e = [nmTok e.s] := toks3 hk;rw [ht];simp (disch := omega) only [go_sem, hk, g2];refine DCalls.monoR (wnm_spec G K e.s) ?_;try simp (disch := omega) only [go_sem, g2, dTok]
  intro q1 hq1; dsimp only at hq1;have nq1 : r2 ≠ q1 := none_ne hq1 g2;try simp (disch := omega) only [go_sem, g2, nq1, dTok, repl1, repl2, repl3, List.length_cons, List.length_nil, List.drop_succ_cons, List.drop_zero, List.drop_nil, List.cons_append, List.nil_append, List.append_nil]
  refine DCalls.monoR (one1 G K (nmTok e.s) hq1) ?_;try simp (disch := omega) only [go_sem, g2, dTok]
  exact DFin.sub hs (.refl ⟨rfl, rfl⟩)
 have z3 := hk; clear hk;by_cases hk : e.kind = 4
 ·obtain ⟨⟨x, hx, _⟩, _⟩ := ff46 (.inl hk) hf;have ht : toksE e = [toksE x, [sTok wDot, nmTok e.s]].flatten := by rw [toks4 hk, ← wt_dot]; unfold tE; rw [hx]; simp
  have hj : [toksE x, [sTok wDot, nmTok e.s]].flatten.length ≤ 100000000 := by rw [← ht]; omega
  rw [ht];have hll : e.l.length = 1 := by rw [hx]; rfl
  have hl0 := lx0 hx;obtain ⟨hx1, hx2⟩ := ih x (mem_parts_l (by rw [hx]; simp));simp (disch := omega) only [go_sem, hk];refine dwp_draws (by kernel_rfl) (.take 0 (.take 1 (.take 2 (.take 3 (.take 6 (.take 7 (.go 4 [7] (.go 5 [7] (.go 8 [] (.go 9 [] (.go 10 [] (.go 11 [] (.go 12 [] (.take 13 .done)))))))))))))) (by kernel_rfl) ?_;simp (disch := omega) only [go_sem, g2, hll, hfl, hl0];refine DCalls.monoR (hx2 K) ?_;try simp (disch := omega) only [go_sem, g2, dTok]
  refine DCalls.monoR (wsym_spec G K wDot) ?_;try simp (disch := omega) only [go_sem, g2, dTok]
  refine DCalls.monoR (wnm_spec G K e.s) ?_;try simp (disch := omega) only [go_sem, g2, dTok]
  intro q1 hq1; dsimp only at hq1;have nq1 : r2 ≠ q1 := none_ne hq1 g2;try simp (disch := omega) only [go_sem, g2, nq1, dTok, repl1, repl2, repl3, List.length_cons, List.length_nil, List.drop_succ_cons, List.drop_zero, List.drop_nil, List.cons_append, List.nil_append, List.append_nil]
  refine DCalls.monoR (one2 G K (sTok wDot) (nmTok e.s) hq1) ?_;try simp (disch := omega) only [go_sem, g2, dTok, nq1]
  intro q2 hq2; dsimp only at hq2;have nq2 : r2 ≠ q2 := none_ne hq2 g2;try simp (disch := omega) only [go_sem, g2, nq2, dTok, repl1, repl2, repl3, List.length_cons, List.length_nil, List.drop_succ_cons, List.drop_zero, List.drop_nil, List.cons_append, List.nil_append, List.append_nil]
  refine DCalls.monoR (joinL' G K [toksE x, [sTok wDot, nmTok e.s]] hq2 rfl (by simp) hj) ?_;try simp (disch := omega) only [go_sem, g2, dTok, nq1, nq2]
  exact DFin.sub hs (.refl ⟨rfl, rfl⟩)
 have z4 := hk; clear hk;by_cases hk : e.kind = 5
 ·obtain ⟨⟨x, hx, _⟩, _⟩ := ff5 hk hf;have ht : toksE e = [toksE x, [sTok wDot, kTok wAll]].flatten := by rw [toks5 hk, ← wt_dot, ← wt_all]; unfold tE; rw [hx]; simp
  have hj : [toksE x, [sTok wDot, kTok wAll]].flatten.length ≤ 100000000 := by rw [← ht]; omega
  rw [ht];have hll : e.l.length = 1 := by rw [hx]; rfl
  have hl0 := lx0 hx;obtain ⟨hx1, hx2⟩ := ih x (mem_parts_l (by rw [hx]; simp));simp (disch := omega) only [go_sem, hk, g2, hll, hfl, hl0];refine DCalls.monoR (hx2 K) ?_;try simp (disch := omega) only [go_sem, g2, dTok]
  refine DCalls.monoR (wsym_spec G K wDot) ?_;try simp (disch := omega) only [go_sem, g2, dTok]
  refine DCalls.monoR (wkey_spec G K wAll) ?_;try simp (disch := omega) only [go_sem, g2, dTok]
  intro q1 hq1; dsimp only at hq1;have nq1 : r2 ≠ q1 := none_ne hq1 g2;try simp (disch := omega) only [go_sem, g2, nq1, dTok, repl1, repl2, repl3, List.length_cons, List.length_nil, List.drop_succ_cons, List.drop_zero, List.drop_nil, List.cons_append, List.nil_append, List.append_nil]
  refine DCalls.monoR (one2 G K (sTok wDot) (kTok wAll) hq1) ?_;try simp (disch := omega) only [go_sem, g2, dTok, nq1]
  intro q2 hq2; dsimp only at hq2;have nq2 : r2 ≠ q2 := none_ne hq2 g2;try simp (disch := omega) only [go_sem, g2, nq2, dTok, repl1, repl2, repl3, List.length_cons, List.length_nil, List.drop_succ_cons, List.drop_zero, List.drop_nil, List.cons_append, List.nil_append, List.append_nil]
  refine DCalls.monoR (joinL' G K [toksE x, [sTok wDot, kTok wAll]] hq2 rfl (by simp) hj) ?_;try simp (disch := omega) only [go_sem, g2, dTok, nq1, nq2]
  exact DFin.sub hs (.refl ⟨rfl, rfl⟩)
 have z5 := hk; clear hk;by_cases hk : e.kind = 6
 ·obtain ⟨⟨x, hx, _⟩, _⟩ := ff46 (.inr hk) hf;have ht : toksE e = [toksE x, [sTok wTick, nmTok e.s]].flatten := by rw [toks6 hk, ← wt_tick]; unfold tE; rw [hx]; simp
  have hj : [toksE x, [sTok wTick, nmTok e.s]].flatten.length ≤ 100000000 := by rw [← ht]; omega
  rw [ht];have hll : e.l.length = 1 := by rw [hx]; rfl
  have hl0 := lx0 hx;obtain ⟨hx1, hx2⟩ := ih x (mem_parts_l (by rw [hx]; simp));simp (disch := omega) only [go_sem, hk];refine dwp_draws (by kernel_rfl) (.take 0 (.take 1 (.take 2 (.take 3 (.take 6 (.take 7 (.go 4 [7] (.go 5 [7] (.go 8 [] (.go 9 [] (.go 10 [] (.go 11 [] (.go 12 [] (.take 13 .done)))))))))))))) (by kernel_rfl) ?_;simp (disch := omega) only [go_sem, g2, hll, hfl, hl0];refine DCalls.monoR (hx2 K) ?_;try simp (disch := omega) only [go_sem, g2, dTok]
  refine DCalls.monoR (wsym_spec G K wTick) ?_;try simp (disch := omega) only [go_sem, g2, dTok]
  refine DCalls.monoR (wnm_spec G K e.s) ?_;try simp (disch := omega) only [go_sem, g2, dTok]
  intro q1 hq1; dsimp only at hq1;have nq1 : r2 ≠ q1 := none_ne hq1 g2;try simp (disch := omega) only [go_sem, g2, nq1, dTok, repl1, repl2, repl3, List.length_cons, List.length_nil, List.drop_succ_cons, List.drop_zero, List.drop_nil, List.cons_append, List.nil_append, List.append_nil]
  refine DCalls.monoR (one2 G K (sTok wTick) (nmTok e.s) hq1) ?_;try simp (disch := omega) only [go_sem, g2, dTok, nq1]
  intro q2 hq2; dsimp only at hq2;have nq2 : r2 ≠ q2 := none_ne hq2 g2;try simp (disch := omega) only [go_sem, g2, nq2, dTok, repl1, repl2, repl3, List.length_cons, List.length_nil, List.drop_succ_cons, List.drop_zero, List.drop_nil, List.cons_append, List.nil_append, List.append_nil]
  refine DCalls.monoR (joinL' G K [toksE x, [sTok wTick, nmTok e.s]] hq2 rfl (by simp) hj) ?_;try simp (disch := omega) only [go_sem, g2, dTok, nq1, nq2]
  exact DFin.sub hs (.refl ⟨rfl, rfl⟩)
 have z6 := hk; clear hk;by_cases hk : e.kind = 7
 ·obtain ⟨⟨x, hx, _⟩, ha, _⟩ := ff7 hk hf;have ht : toksE e = [toksE x, [sTok wOpen], taE e, [sTok wShut]].flatten := by rw [toks7 hk, ← wt_open, ← wt_shut]; unfold tE; rw [hx]; simp
  have hta : (taE e).length ≤ 100000 := by rw [ht] at hlen; simp at hlen; omega
  have hj : [toksE x, [sTok wOpen], taE e, [sTok wShut]].flatten.length ≤ 100000000 := by rw [← ht]; omega
  rw [ht];have hll : e.l.length = 1 := by rw [hx]; rfl
  have hl0 := lx0 hx;obtain ⟨hx1, hx2⟩ := ih x (mem_parts_l (by rw [hx]; simp));have har := args_right ha;have hal : e.a.length ≤ 1000000 := by
   rw [argsOk, Bool.and_eq_true, Bool.and_eq_true, Bool.and_eq_true, decide_eq_true_eq, decide_eq_true_eq] at ha; omega
  have hao : ∀ a ∈ e.a, AllOk Tryz.prog G 87 a.e ∧ ∀ c ∈ a.c, ∀ x ∈ c.l, AllOk Tryz.prog G 87 x := fun a h => ⟨ih _ (mem_parts_a h (mem_partsA_e a)), fun c hc x hx => ih _ (mem_parts_a h (mem_partsA_c hc hx))⟩;have hra := (rargs_own G K e.a hal har hao (by unfold taE at hta; omega)).frozenJ;simp (disch := omega) only [go_sem, hk];refine dwp_draws (by kernel_rfl) (.take 0 (.take 1 (.take 2 (.take 3 (.take 8 (.take 9 (.go 4 [9] (.go 5 [9] (.go 6 [9] (.go 7 [9] (.go 10 [] (.go 11 [] (.go 12 [] (.go 13 [] (.go 14 [] (.go 15 [] (.take 16 .done))))))))))))))))) (by kernel_rfl) ?_;simp (disch := omega) only [go_sem, g2, hll, hfl, hl0];refine DCalls.monoR (hx2 K) ?_;try simp (disch := omega) only [go_sem, g2, dTok]
  refine DCalls.monoR (wsym_spec G K wOpen) ?_;try simp (disch := omega) only [go_sem, g2, dTok]
  intro q1 hq1; dsimp only at hq1;have nq1 : r2 ≠ q1 := none_ne hq1 g2;try simp (disch := omega) only [go_sem, g2, nq1, dTok, repl1, repl2, repl3, List.length_cons, List.length_nil, List.drop_succ_cons, List.drop_zero, List.drop_nil, List.cons_append, List.nil_append, List.append_nil]
  refine DCalls.monoR (one1 G K (sTok wOpen) hq1) ?_;try simp (disch := omega) only [go_sem, g2, dTok, nq1]
  refine DCalls.monoR (hra) ?_;try simp (disch := omega) only [go_sem, g2, dTok, nq1]
  refine DCalls.monoR (wsym_spec G K wShut) ?_;try simp (disch := omega) only [go_sem, g2, dTok, nq1]
  intro q2 hq2; dsimp only at hq2;have nq2 : r2 ≠ q2 := none_ne hq2 g2;try simp (disch := omega) only [go_sem, g2, nq2, dTok, repl1, repl2, repl3, List.length_cons, List.length_nil, List.drop_succ_cons, List.drop_zero, List.drop_nil, List.cons_append, List.nil_append, List.append_nil]
  refine DCalls.monoR (one1 G K (sTok wShut) hq2) ?_;try simp (disch := omega) only [go_sem, g2, dTok, nq1, nq2]
  intro q3 hq3; dsimp only at hq3;have nq3 : r2 ≠ q3 := none_ne hq3 g2;try simp (disch := omega) only [go_sem, g2, nq3, dTok, repl1, repl2, repl3, List.length_cons, List.length_nil, List.drop_succ_cons, List.drop_zero, List.drop_nil, List.cons_append, List.nil_append, List.append_nil]
  refine DCalls.monoR (joinL' G K [toksE x, [sTok wOpen], taE e, [sTok wShut]] hq3 rfl (by simp) hj) ?_;try simp (disch := omega) only [go_sem, g2, dTok, nq1, nq2, nq3]
  exact DFin.sub hs (.refl ⟨rfl, rfl⟩)
 have z7 := hk; clear hk;by_cases hk : e.kind = 8
 ·obtain ⟨⟨x, y, hx, _⟩, _⟩ := ff8 hk hf;have hll : e.l.length = 2 := by rw [hx]; rfl
  have hl0 := lx0 hx;have hl1 := lx1 hx;have hy0 : (e.l.flatMap dEx)[9]? = some (.int .u8 y.kind) := by
   rw [hx, List.flatMap_cons, List.flatMap_cons, dEx_eq x, dEx_eq y]; rfl
  obtain ⟨hx1, hx2⟩ := ih x (mem_parts_l (by rw [hx]; simp));obtain ⟨hy1, hy2⟩ := ih y (mem_parts_l (by rw [hx]; simp));by_cases hb : y.kind = 9 ∨ y.kind = 10
  ·have ht : toksE e = [toksE x, [sTok wTick], toksE y].flatten := by
    have hb' : bareK y.kind = true := by rw [bareK, Bool.or_eq_true, decide_eq_true_eq, decide_eq_true_eq]; exact hb
    rw [toks8 hk, ← wt_tick]; unfold tE; rw [hx];show toksE x ++ wTok wTick :: parT (!bareK y.kind) (toksE y) = _;rw [hb']; simp [parT]
   have hj : [toksE x, [sTok wTick], toksE y].flatten.length ≤ 100000000 := by rw [← ht]; omega
   rw [ht];rcases hb with b9 | b10
   ·simp (disch := omega) only [go_sem, hk, g2, hll, hfl, hy0, b9];refine dwp_draws (by kernel_rfl) (.take 0 (.take 1 (.take 2 (.take 3 (.take 8 (.take 9 (.take 10 (.take 11 (.go 4 [11, 9] (.go 5 [11, 9] (.go 6 [11, 9] (.go 7 [11, 9] (.go 12 [] (.go 13 [] (.go 14 [] (.take 15 .done)))))))))))))))) (by kernel_rfl) ?_;simp (disch := omega) only [go_sem, g2, hll, hfl, hl0, hl1];refine DCalls.monoR (hx2 K) ?_;try simp (disch := omega) only [go_sem, g2, dTok]
    refine DCalls.monoR (wsym_spec G K wTick) ?_;try simp (disch := omega) only [go_sem, g2, dTok]
    intro q1 hq1; dsimp only at hq1;have nq1 : r2 ≠ q1 := none_ne hq1 g2;try simp (disch := omega) only [go_sem, g2, nq1, dTok, repl1, repl2, repl3, List.length_cons, List.length_nil, List.drop_succ_cons, List.drop_zero, List.drop_nil, List.cons_append, List.nil_append, List.append_nil]
    refine DCalls.monoR (one1 G K (sTok wTick) hq1) ?_;try simp (disch := omega) only [go_sem, g2, dTok, nq1]
    try simp (disch := omega) only [go_sem, g2, hll, hfl, hl0, hl1]
    refine DCalls.monoR (hy2 K) ?_;try simp (disch := omega) only [go_sem, g2, dTok, nq1]
    intro q2 hq2; dsimp only at hq2;have nq2 : r2 ≠ q2 := none_ne hq2 g2;try simp (disch := omega) only [go_sem, g2, nq2, dTok, repl1, repl2, repl3, List.length_cons, List.length_nil, List.drop_succ_cons, List.drop_zero, List.drop_nil, List.cons_append, List.nil_append, List.append_nil]
    refine DCalls.monoR (joinL' G K [toksE x, [sTok wTick], toksE y] hq2 rfl (by simp) hj) ?_;try simp (disch := omega) only [go_sem, g2, dTok, nq1, nq2]
    exact DFin.sub hs (.refl ⟨rfl, rfl⟩)
   ·simp (disch := omega) only [go_sem, hk, g2, hll, hfl, hy0, b10];refine dwp_draws (by kernel_rfl) (.take 0 (.take 1 (.take 2 (.take 3 (.take 8 (.take 9 (.take 10 (.take 11 (.go 4 [11, 9] (.go 5 [11, 9] (.go 6 [11, 9] (.go 7 [11, 9] (.go 12 [] (.go 13 [] (.go 14 [] (.take 15 .done)))))))))))))))) (by kernel_rfl) ?_;simp (disch := omega) only [go_sem, g2, hll, hfl, hl0, hl1];refine DCalls.monoR (hx2 K) ?_;try simp (disch := omega) only [go_sem, g2, dTok]
    refine DCalls.monoR (wsym_spec G K wTick) ?_;try simp (disch := omega) only [go_sem, g2, dTok]
    intro q1 hq1; dsimp only at hq1;have nq1 : r2 ≠ q1 := none_ne hq1 g2;try simp (disch := omega) only [go_sem, g2, nq1, dTok, repl1, repl2, repl3, List.length_cons, List.length_nil, List.drop_succ_cons, List.drop_zero, List.drop_nil, List.cons_append, List.nil_append, List.append_nil]
    refine DCalls.monoR (one1 G K (sTok wTick) hq1) ?_;try simp (disch := omega) only [go_sem, g2, dTok, nq1]
    try simp (disch := omega) only [go_sem, g2, hll, hfl, hl0, hl1]
    refine DCalls.monoR (hy2 K) ?_;try simp (disch := omega) only [go_sem, g2, dTok, nq1]
    intro q2 hq2; dsimp only at hq2;have nq2 : r2 ≠ q2 := none_ne hq2 g2;try simp (disch := omega) only [go_sem, g2, nq2, dTok, repl1, repl2, repl3, List.length_cons, List.length_nil, List.drop_succ_cons, List.drop_zero, List.drop_nil, List.cons_append, List.nil_append, List.append_nil]
    refine DCalls.monoR (joinL' G K [toksE x, [sTok wTick], toksE y] hq2 rfl (by simp) hj) ?_;try simp (disch := omega) only [go_sem, g2, dTok, nq1, nq2]
    exact DFin.sub hs (.refl ⟨rfl, rfl⟩)
  ·obtain ⟨b9, b10⟩ : ¬ y.kind = 9 ∧ ¬ y.kind = 10 := ⟨fun h => hb (.inl h), fun h => hb (.inr h)⟩;have ht : toksE e = [toksE x, [sTok wTick, sTok wOpen], toksE y, [sTok wShut]].flatten := by
    have hb' : bareK y.kind = false := by rw [bareK, decide_eq_false b9, decide_eq_false b10]; rfl
    rw [toks8 hk, ← wt_tick, ← wt_open, ← wt_shut]; unfold tE; rw [hx];show toksE x ++ wTok wTick :: parT (!bareK y.kind) (toksE y) = _;rw [hb']; simp [parT]
   have hj : [toksE x, [sTok wTick, sTok wOpen], toksE y, [sTok wShut]].flatten.length ≤ 100000000 := by rw [← ht]; omega
   rw [ht];simp (disch := omega) only [go_sem, hk, g2, hll, hfl, hy0, b9, b10];refine dwp_draws (by kernel_rfl) (.take 0 (.take 1 (.take 2 (.take 3 (.take 9 (.take 10 (.take 11 (.take 12 (.go 4 [12, 10] (.go 5 [12, 10] (.go 6 [12, 10] (.go 7 [12, 10] (.go 8 [12, 10] (.go 13 [] (.go 14 [] (.go 15 [] (.go 16 [] (.go 17 [] (.go 18 [] (.take 19 .done)))))))))))))))))))) (by kernel_rfl) ?_;simp (disch := omega) only [go_sem, g2, hll, hfl, hl0, hl1];refine DCalls.monoR (hx2 K) ?_;try simp (disch := omega) only [go_sem, g2, dTok]
   refine DCalls.monoR (wsym_spec G K wTick) ?_;try simp (disch := omega) only [go_sem, g2, dTok]
   refine DCalls.monoR (wsym_spec G K wOpen) ?_;try simp (disch := omega) only [go_sem, g2, dTok]
   intro q1 hq1; dsimp only at hq1;have nq1 : r2 ≠ q1 := none_ne hq1 g2;try simp (disch := omega) only [go_sem, g2, nq1, dTok, repl1, repl2, repl3, List.length_cons, List.length_nil, List.drop_succ_cons, List.drop_zero, List.drop_nil, List.cons_append, List.nil_append, List.append_nil]
   refine DCalls.monoR (one2 G K (sTok wTick) (sTok wOpen) hq1) ?_;try simp (disch := omega) only [go_sem, g2, dTok, nq1]
   try simp (disch := omega) only [go_sem, g2, hll, hfl, hl0, hl1]
   refine DCalls.monoR (hy2 K) ?_;try simp (disch := omega) only [go_sem, g2, dTok, nq1]
   refine DCalls.monoR (wsym_spec G K wShut) ?_;try simp (disch := omega) only [go_sem, g2, dTok, nq1]
   intro q2 hq2; dsimp only at hq2;have nq2 : r2 ≠ q2 := none_ne hq2 g2;try simp (disch := omega) only [go_sem, g2, nq2, dTok, repl1, repl2, repl3, List.length_cons, List.length_nil, List.drop_succ_cons, List.drop_zero, List.drop_nil, List.cons_append, List.nil_append, List.append_nil]
   refine DCalls.monoR (one1 G K (sTok wShut) hq2) ?_;try simp (disch := omega) only [go_sem, g2, dTok, nq1, nq2]
   intro q3 hq3; dsimp only at hq3;have nq3 : r2 ≠ q3 := none_ne hq3 g2;try simp (disch := omega) only [go_sem, g2, nq3, dTok, repl1, repl2, repl3, List.length_cons, List.length_nil, List.drop_succ_cons, List.drop_zero, List.drop_nil, List.cons_append, List.nil_append, List.append_nil]
   refine DCalls.monoR (joinL' G K [toksE x, [sTok wTick, sTok wOpen], toksE y, [sTok wShut]] hq3 rfl (by simp) hj) ?_;try simp (disch := omega) only [go_sem, g2, dTok, nq1, nq2, nq3]
   exact DFin.sub hs (.refl ⟨rfl, rfl⟩)
 have z8 := hk; clear hk;by_cases hk : e.kind = 9
 ·obtain ⟨hx, ha, _⟩ := ff9 hk hf;have ht : toksE e = [[sTok wOpen], taE e, [sTok wShut]].flatten := by rw [toks9 hk, ← wt_open, ← wt_shut]; simp
  have hta : (taE e).length ≤ 100000 := by rw [ht] at hlen; simp at hlen; omega
  have hj : [[sTok wOpen], taE e, [sTok wShut]].flatten.length ≤ 100000000 := by rw [← ht]; omega
  rw [ht];rw [assocsOk] at ha;simp only [Bool.and_eq_true, decide_eq_true_eq, Bool.not_eq_true'] at ha;have har := assocAll_mem ha.2;have hal : e.a.length ≤ 1000000 := by omega
  have hao : ∀ a ∈ e.a, AllOk Tryz.prog G 87 a.e ∧ ∀ c ∈ a.c, ∀ x ∈ c.l, AllOk Tryz.prog G 87 x := fun a h => ⟨ih _ (mem_parts_a h (mem_partsA_e a)), fun c hc x hx => ih _ (mem_parts_a h (mem_partsA_c hc hx))⟩;have hra := (rargs_own G K e.a hal har hao (by unfold taE at hta; omega)).frozenJ;simp (disch := omega) only [go_sem, hk];refine dwp_draws (by kernel_rfl) (.take 3 (.take 4 (.go 0 [4] (.go 1 [4] (.go 2 [4] (.go 5 [] (.go 6 [] (.go 7 [] (.go 8 [] (.go 9 [] (.go 10 [] (.take 11 .done)))))))))))) (by kernel_rfl) ?_;simp (disch := omega) only [go_sem, g2];refine DCalls.monoR (wsym_spec G K wOpen) ?_;try simp (disch := omega) only [go_sem, g2, dTok]
  intro q1 hq1; dsimp only at hq1;have nq1 : r2 ≠ q1 := none_ne hq1 g2;try simp (disch := omega) only [go_sem, g2, nq1, dTok, repl1, repl2, repl3, List.length_cons, List.length_nil, List.drop_succ_cons, List.drop_zero, List.drop_nil, List.cons_append, List.nil_append, List.append_nil]
  refine DCalls.monoR (one1 G K (sTok wOpen) hq1) ?_;try simp (disch := omega) only [go_sem, g2, dTok, nq1]
  refine DCalls.monoR (hra) ?_;try simp (disch := omega) only [go_sem, g2, dTok, nq1]
  refine DCalls.monoR (wsym_spec G K wShut) ?_;try simp (disch := omega) only [go_sem, g2, dTok, nq1]
  intro q2 hq2; dsimp only at hq2;have nq2 : r2 ≠ q2 := none_ne hq2 g2;try simp (disch := omega) only [go_sem, g2, nq2, dTok, repl1, repl2, repl3, List.length_cons, List.length_nil, List.drop_succ_cons, List.drop_zero, List.drop_nil, List.cons_append, List.nil_append, List.append_nil]
  refine DCalls.monoR (one1 G K (sTok wShut) hq2) ?_;try simp (disch := omega) only [go_sem, g2, dTok, nq1, nq2]
  intro q3 hq3; dsimp only at hq3;have nq3 : r2 ≠ q3 := none_ne hq3 g2;try simp (disch := omega) only [go_sem, g2, nq3, dTok, repl1, repl2, repl3, List.length_cons, List.length_nil, List.drop_succ_cons, List.drop_zero, List.drop_nil, List.cons_append, List.nil_append, List.append_nil]
  refine DCalls.monoR (joinL' G K [[sTok wOpen], taE e, [sTok wShut]] hq3 rfl (by simp) hj) ?_;try simp (disch := omega) only [go_sem, g2, dTok, nq1, nq2, nq3]
  exact DFin.sub hs (.refl ⟨rfl, rfl⟩)
 have z9 := hk; clear hk;by_cases hk : e.kind = 10
 ·obtain ⟨⟨x, y, z, hx⟩, _⟩ := ff10 hk hf;have ht : toksE e = [[sTok wOpen, kTok wIf], toksE x, [kTok wThen], toksE y, [kTok wElse], toksE z, [sTok wShut]].flatten := by
   rw [toks10 hk, ← wt_open, ← wt_if, ← wt_then, ← wt_else, ← wt_shut]; unfold tE; rw [hx]; simp
  have hj : [[sTok wOpen, kTok wIf], toksE x, [kTok wThen], toksE y, [kTok wElse], toksE z, [sTok wShut]].flatten.length ≤ 100000000 := by rw [← ht]; omega
  rw [ht];have hll : e.l.length = 3 := by rw [hx]; rfl
  have hl0 := lx0 hx;have hl1 := lx1 hx;have hl2 := lx2 hx;obtain ⟨hx1, hx2⟩ := ih x (mem_parts_l (by rw [hx]; simp));obtain ⟨hy1, hy2⟩ := ih y (mem_parts_l (by rw [hx]; simp));obtain ⟨hz1, hz2⟩ := ih z (mem_parts_l (by rw [hx]; simp));simp (disch := omega) only [go_sem, hk];refine dwp_draws (by kernel_rfl) (.take 4 (.take 5 (.take 6 (.take 7 (.take 12 (.take 13 (.take 14 (.take 15 (.take 20 (.take 21 (.take 22 (.take 23 (.go 0 [23, 21, 15, 13, 7, 5] (.go 1 [23, 21, 15, 13, 7, 5] (.go 2 [23, 21, 15, 13, 7, 5] (.go 3 [23, 21, 15, 13, 7, 5] (.go 8 [23, 21, 15, 13] (.go 9 [23, 21, 15, 13] (.go 10 [23, 21, 15, 13] (.go 11 [23, 21, 15, 13] (.go 16 [23, 21] (.go 17 [23, 21] (.go 18 [23, 21] (.go 19 [23, 21] (.go 24 [] (.go 25 [] (.go 26 [] (.go 27 [] (.go 28 [] (.go 29 [] (.take 30 .done))))))))))))))))))))))))))))))) (by kernel_rfl) ?_;simp (disch := omega) only [go_sem, g2, hll, hfl, hl0, hl1, hl2];refine DCalls.monoR (wsym_spec G K wOpen) ?_;try simp (disch := omega) only [go_sem, g2, dTok]
  refine DCalls.monoR (wkey_spec G K wIf) ?_;try simp (disch := omega) only [go_sem, g2, dTok]
  intro q1 hq1; dsimp only at hq1;have nq1 : r2 ≠ q1 := none_ne hq1 g2;try simp (disch := omega) only [go_sem, g2, nq1, dTok, repl1, repl2, repl3, List.length_cons, List.length_nil, List.drop_succ_cons, List.drop_zero, List.drop_nil, List.cons_append, List.nil_append, List.append_nil]
  refine DCalls.monoR (one2 G K (sTok wOpen) (kTok wIf) hq1) ?_;try simp (disch := omega) only [go_sem, g2, dTok, nq1]
  try simp (disch := omega) only [go_sem, g2, hll, hfl, hl0, hl1, hl2]
  refine DCalls.monoR (hx2 K) ?_;try simp (disch := omega) only [go_sem, g2, dTok, nq1]
  refine DCalls.monoR (wkey_spec G K wThen) ?_;try simp (disch := omega) only [go_sem, g2, dTok, nq1]
  intro q2 hq2; dsimp only at hq2;have nq2 : r2 ≠ q2 := none_ne hq2 g2;try simp (disch := omega) only [go_sem, g2, nq2, dTok, repl1, repl2, repl3, List.length_cons, List.length_nil, List.drop_succ_cons, List.drop_zero, List.drop_nil, List.cons_append, List.nil_append, List.append_nil]
  refine DCalls.monoR (one1 G K (kTok wThen) hq2) ?_;try simp (disch := omega) only [go_sem, g2, dTok, nq1, nq2]
  try simp (disch := omega) only [go_sem, g2, hll, hfl, hl0, hl1, hl2]
  refine DCalls.monoR (hy2 K) ?_;try simp (disch := omega) only [go_sem, g2, dTok, nq1, nq2]
  refine DCalls.monoR (wkey_spec G K wElse) ?_;try simp (disch := omega) only [go_sem, g2, dTok, nq1, nq2]
  intro q3 hq3; dsimp only at hq3;have nq3 : r2 ≠ q3 := none_ne hq3 g2;try simp (disch := omega) only [go_sem, g2, nq3, dTok, repl1, repl2, repl3, List.length_cons, List.length_nil, List.drop_succ_cons, List.drop_zero, List.drop_nil, List.cons_append, List.nil_append, List.append_nil]
  refine DCalls.monoR (one1 G K (kTok wElse) hq3) ?_;try simp (disch := omega) only [go_sem, g2, dTok, nq1, nq2, nq3]
  try simp (disch := omega) only [go_sem, g2, hll, hfl, hl0, hl1, hl2]
  refine DCalls.monoR (hz2 K) ?_;try simp (disch := omega) only [go_sem, g2, dTok, nq1, nq2, nq3]
  refine DCalls.monoR (wsym_spec G K wShut) ?_;try simp (disch := omega) only [go_sem, g2, dTok, nq1, nq2, nq3]
  intro q4 hq4; dsimp only at hq4;have nq4 : r2 ≠ q4 := none_ne hq4 g2;try simp (disch := omega) only [go_sem, g2, nq4, dTok, repl1, repl2, repl3, List.length_cons, List.length_nil, List.drop_succ_cons, List.drop_zero, List.drop_nil, List.cons_append, List.nil_append, List.append_nil]
  refine DCalls.monoR (one1 G K (sTok wShut) hq4) ?_;try simp (disch := omega) only [go_sem, g2, dTok, nq1, nq2, nq3, nq4]
  intro q5 hq5; dsimp only at hq5;have nq5 : r2 ≠ q5 := none_ne hq5 g2;try simp (disch := omega) only [go_sem, g2, nq5, dTok, repl1, repl2, repl3, List.length_cons, List.length_nil, List.drop_succ_cons, List.drop_zero, List.drop_nil, List.cons_append, List.nil_append, List.append_nil]
  try simp (disch := omega) only [go_sem, repl7]
  refine DCalls.monoR (joinL' G K [[sTok wOpen, kTok wIf], toksE x, [kTok wThen], toksE y, [kTok wElse], toksE z, [sTok wShut]] hq5 rfl (by simp) hj) ?_;try simp (disch := omega) only [go_sem, g2, dTok, nq1, nq2, nq3, nq4, nq5]
  exact DFin.sub hs (.refl ⟨rfl, rfl⟩)
 have z10 := hk; clear hk;by_cases hk : e.kind = 11
 ·obtain ⟨⟨x, hx⟩, ⟨o, ho, hoo⟩, _⟩ := ff11 hk hf;have ht : toksE e = [(wordsN o).map wTok, partE x (leastM e)].flatten := by
   rw [toks11 hk, ho, Int.toNat_natCast]; unfold pE tE; rw [hx]; simp [partE]
  have hj : [(wordsN o).map wTok, partE x (leastM e)].flatten.length ≤ 100000000 := by rw [← ht]; omega
  rw [ht];have hll : e.l.length = 1 := by rw [hx]; rfl
  have hl0 := lx0 hx;obtain ⟨hx1, hx2⟩ := ih x (mem_parts_l (by rw [hx]; simp));have hls := rleast_spec G K e 0 (.inl rfl) (.inl hk) (fun h => absurd h (by omega));have hlp : leastP e 0 = leastM e := by
   have : levelE e ≠ 1 := by
    unfold levelE;rcases hoo with h | h | h | h <;> subst h <;> simp [hk, ho]
   rw [leastP, if_neg (by omega), if_neg this]
  rw [hlp] at hls;simp (disch := omega) only [go_sem, hk];refine dwp_draws (by kernel_rfl) (.take 0 (.take 1 (.take 3 (.take 4 (.take 5 (.take 6 (.take 7 (.go 2 [7, 6, 4] (.go 8 [6, 4] (.go 9 [] (.go 10 [] (.go 11 [] (.take 12 .done))))))))))))) (by kernel_rfl) ?_;simp (disch := omega) only [go_sem, g2, hll, hfl, hl0, ho];refine DCalls.monoR (roper_spec G K o (by omega)) ?_;try simp (disch := omega) only [go_sem, g2, dTok]
  try simp (disch := omega) only [go_sem, g2, hll, hfl, hl0]
  refine DCalls.monoR (hls) ?_;try simp (disch := omega) only [go_sem, g2, dTok]
  refine DCalls.monoR (rpart_spec G K x (leastM e) (by omega) hx2) ?_;try simp (disch := omega) only [go_sem, g2, dTok]
  intro q1 hq1; dsimp only at hq1;have nq1 : r2 ≠ q1 := none_ne hq1 g2;try simp (disch := omega) only [go_sem, g2, nq1, dTok, repl1, repl2, repl3, List.length_cons, List.length_nil, List.drop_succ_cons, List.drop_zero, List.drop_nil, List.cons_append, List.nil_append, List.append_nil]
  refine DCalls.monoR (joinL' G K [(wordsN o).map wTok, partE x (leastM e)] hq1 rfl (by simp) hj) ?_;try simp (disch := omega) only [go_sem, g2, dTok, nq1]
  exact DFin.sub hs (.refl ⟨rfl, rfl⟩)
 have z11 := hk; clear hk;by_cases hk : e.kind = 12
 ·obtain ⟨⟨x, y, hx⟩, ⟨o, ho, hoo⟩, _⟩ := ff12 hk hf;have ht : toksE e = [partE x (leastL e), (wordsN o).map wTok, partE y (leastR e)].flatten := by
   rw [toks12 hk, ho, Int.toNat_natCast]; unfold pE tE; rw [hx]; simp [partE]
  have hj : [partE x (leastL e), (wordsN o).map wTok, partE y (leastR e)].flatten.length ≤ 100000000 := by rw [← ht]; omega
  rw [ht];have hll : e.l.length = 2 := by rw [hx]; rfl
  have hl0 := lx0 hx;have hl1 := lx1 hx;obtain ⟨hx1, hx2⟩ := ih x (mem_parts_l (by rw [hx]; simp));obtain ⟨hy1, hy2⟩ := ih y (mem_parts_l (by rw [hx]; simp));have hls := rleast_spec G K e 0 (.inl rfl) (.inr (.inl hk)) (fun _ => by omega);have hls2 := rleast_spec G K e 1 (.inr rfl) (.inr (.inl hk)) (fun _ => by omega);rw [show leastP e 0 = leastL e by rw [leastP, if_pos hk, if_pos rfl]] at hls;rw [show leastP e 1 = leastR e by rw [leastP, if_pos hk, if_neg (by decide)]] at hls2;simp (disch := omega) only [go_sem, hk];refine dwp_draws (by kernel_rfl) (.take 0 (.take 1 (.take 2 (.take 3 (.take 4 (.take 7 (.take 8 (.take 10 (.take 11 (.take 12 (.take 13 (.take 14 (.go 5 [14, 13, 11, 8, 3, 1] (.go 6 [14, 13, 11, 8] (.go 9 [14, 13, 11] (.go 15 [13, 11] (.go 16 [] (.go 17 [] (.go 18 [] (.take 19 .done)))))))))))))))))))) (by kernel_rfl) ?_;simp (disch := omega) only [go_sem, g2, hll, hfl, hl0, hl1, ho];refine DCalls.monoR (hls) ?_;try simp (disch := omega) only [go_sem, g2, dTok]
  refine DCalls.monoR (rpart_spec G K x (leastL e) (by omega) hx2) ?_;try simp (disch := omega) only [go_sem, g2, dTok]
  try simp (disch := omega) only [go_sem, g2, hll, hfl, hl0, hl1, ho]
  refine DCalls.monoR (roper_spec G K o (by omega)) ?_;try simp (disch := omega) only [go_sem, g2, dTok]
  try simp (disch := omega) only [go_sem, g2, hll, hfl, hl0, hl1]
  refine DCalls.monoR (hls2) ?_;try simp (disch := omega) only [go_sem, g2, dTok]
  refine DCalls.monoR (rpart_spec G K y (leastR e) (by omega) hy2) ?_;try simp (disch := omega) only [go_sem, g2, dTok]
  intro q1 hq1; dsimp only at hq1;have nq1 : r2 ≠ q1 := none_ne hq1 g2;try simp (disch := omega) only [go_sem, g2, nq1, dTok, repl1, repl2, repl3, List.length_cons, List.length_nil, List.drop_succ_cons, List.drop_zero, List.drop_nil, List.cons_append, List.nil_append, List.append_nil]
  refine DCalls.monoR (joinL' G K [partE x (leastL e), (wordsN o).map wTok, partE y (leastR e)] hq1 rfl (by simp) hj) ?_;try simp (disch := omega) only [go_sem, g2, dTok, nq1]
  exact DFin.sub hs (.refl ⟨rfl, rfl⟩)
 have z12 := hk; clear hk;have hk' : e.kind = 13 ∨ e.kind = 14 := by
  by_cases a : e.kind = 13
  ·exact .inl a
  ·by_cases b : e.kind = 14
   ·exact .inr b
   ·exfalso;unfold fieldsE at hf;simp [z1, z2, z3, z4, z5, z6, z7, z8, z9, z10, z11, z12, a, b] at hf
 obtain ⟨hsh, _⟩ := ff134 hk' hf;simp (disch := omega) only [go_sem, z1, z2, z3, z4, z5, z6, z7, z8, z9, z10, z11, z12];refine DCalls.monoR (wkey_spec G K wIn) ?_;try simp (disch := omega) only [go_sem, g2, dTok]
 intro q1 hq1; dsimp only at hq1;have nq1 : r2 ≠ q1 := none_ne hq1 g2;try simp (disch := omega) only [go_sem, g2, nq1, dTok, repl1, repl2, repl3, List.length_cons, List.length_nil, List.drop_succ_cons, List.drop_zero, List.drop_nil, List.cons_append, List.nil_append, List.append_nil]
 refine DCalls.monoR (one1 G K (kTok wIn) hq1) ?_;try simp (disch := omega) only [go_sem, g2, dTok, nq1]
 rcases hk' with hk | hk
 ·simp (disch := omega) only [go_sem, g2, hk];rcases hsh with ⟨x, y, z, hx⟩ | ⟨x, y, hx, hy⟩
  ·have ht : toksE e = [[partE x 2, [kTok wIn], partE y 2].flatten, [sTok wDots], partE z 2].flatten := by
    rw [toks13 hk, tailE, if_pos (by rw [hx]; rfl), ← wt_dots];simp only [← wt_in, ← wt_not];unfold pE tE; rw [hx]; simp [partE]
   have hj : [[partE x 2, [kTok wIn], partE y 2].flatten, [sTok wDots], partE z 2].flatten.length ≤ 100000000 := by rw [← ht]; omega
   rw [ht];have hj1 : [partE x 2, [kTok wIn], partE y 2].flatten.length ≤ 100000000 := by simp at hj ⊢; omega
   have hll : e.l.length = 3 := by rw [hx]; rfl
   have hl0 := lx0 hx;have hl1 := lx1 hx;have hl2 := lx2 hx;obtain ⟨hx1, hx2⟩ := ih x (mem_parts_l (by rw [hx]; simp));obtain ⟨hy1, hy2⟩ := ih y (mem_parts_l (by rw [hx]; simp));obtain ⟨hz1, hz2⟩ := ih z (mem_parts_l (by rw [hx]; simp));refine dwp_draws (by kernel_rfl) (.take 0 (.take 1 (.take 2 (.take 3 (.take 5 (.take 6 (.take 7 (.take 8 (.take 9 (.go 4 [9, 7] (.go 10 [] (.go 11 [] (.go 12 [] (.take 13 .done)))))))))))))) (by kernel_rfl) ?_;simp (disch := omega) only [go_sem, g2, hll, hfl, hl0, hl1, hl2];refine DCalls.monoR (rpart_spec G K x 2 (by omega) hx2) ?_;try simp (disch := omega) only [go_sem, g2, dTok]
   try simp (disch := omega) only [go_sem, g2, hll, hfl, hl0, hl1, hl2]
   refine DCalls.monoR (rpart_spec G K y 2 (by omega) hy2) ?_;try simp (disch := omega) only [go_sem, g2, dTok]
   intro q5 hq5; dsimp only at hq5;have nq5 : r2 ≠ q5 := none_ne hq5 g2;try simp (disch := omega) only [go_sem, g2, nq5, dTok, repl1, repl2, repl3, List.length_cons, List.length_nil, List.drop_succ_cons, List.drop_zero, List.drop_nil, List.cons_append, List.nil_append, List.append_nil]
   refine DCalls.monoR (joinL' G K [partE x 2, [kTok wIn], partE y 2] hq5 rfl (by simp) hj1) ?_;try simp (disch := omega) only [go_sem, g2, dTok, nq5]
   simp (disch := omega) only [go_sem, g2, hll];refine dwp_draws (by kernel_rfl) (.take 0 (.take 4 (.take 5 (.take 6 (.take 7 (.go 1 [7, 5] (.go 2 [7, 5] (.go 3 [7, 5] (.go 8 [] (.go 9 [] (.go 10 [] (.take 11 .done)))))))))))) (by kernel_rfl) ?_;simp (disch := omega) only [go_sem, g2, hll, hfl, hl0, hl1, hl2];refine DCalls.monoR (wsym_spec G K wDots) ?_;try simp (disch := omega) only [go_sem, g2, dTok]
   intro q6 hq6; dsimp only at hq6;have nq6 : r2 ≠ q6 := none_ne hq6 g2;try simp (disch := omega) only [go_sem, g2, nq6, dTok, repl1, repl2, repl3, List.length_cons, List.length_nil, List.drop_succ_cons, List.drop_zero, List.drop_nil, List.cons_append, List.nil_append, List.append_nil]
   refine DCalls.monoR (one1 G K (sTok wDots) hq6) ?_;try simp (disch := omega) only [go_sem, g2, dTok, nq6]
   try simp (disch := omega) only [go_sem, g2, hll, hfl, hl0, hl1, hl2]
   refine DCalls.monoR (rpart_spec G K z 2 (by omega) hz2) ?_;try simp (disch := omega) only [go_sem, g2, dTok, nq6]
   intro q7 hq7; dsimp only at hq7;have nq7 : r2 ≠ q7 := none_ne hq7 g2;try simp (disch := omega) only [go_sem, g2, nq7, dTok, repl1, repl2, repl3, List.length_cons, List.length_nil, List.drop_succ_cons, List.drop_zero, List.drop_nil, List.cons_append, List.nil_append, List.append_nil]
   refine DCalls.monoR (joinL' G K [[partE x 2, [kTok wIn], partE y 2].flatten, [sTok wDots], partE z 2] hq7 rfl (by simp) hj) ?_;try simp (disch := omega) only [go_sem, g2, dTok, nq6, nq7]
   exact DFin.sub hs (.refl ⟨rfl, rfl⟩)
  ·have hpy : partE y 2 = toksE y := by
    have : levelE y = 5 := lv5 (by rw [namedE, Bool.and_eq_true, decide_eq_true_eq, decide_eq_true_eq] at hy; omega);rw [partE, this]; rfl
   have ht : toksE e = [partE x 2, [kTok wIn], partE y 2].flatten := by
    rw [toks13 hk, tailE, if_neg (by rw [hx]; simp), hpy];simp only [← wt_in, ← wt_not];unfold pE tE; rw [hx]; simp [partE]
   have hj : [partE x 2, [kTok wIn], partE y 2].flatten.length ≤ 100000000 := by rw [← ht]; omega
   rw [ht];have hll : e.l.length = 2 := by rw [hx]; rfl
   have hl0 := lx0 hx;have hl1 := lx1 hx;obtain ⟨hx1, hx2⟩ := ih x (mem_parts_l (by rw [hx]; simp));obtain ⟨hy1, hy2⟩ := ih y (mem_parts_l (by rw [hx]; simp));refine dwp_draws (by kernel_rfl) (.take 0 (.take 1 (.take 2 (.take 3 (.take 5 (.take 6 (.take 7 (.take 8 (.take 9 (.go 4 [9, 7] (.go 10 [] (.go 11 [] (.go 12 [] (.take 13 .done)))))))))))))) (by kernel_rfl) ?_;simp (disch := omega) only [go_sem, g2, hll, hfl, hl0, hl1];refine DCalls.monoR (rpart_spec G K x 2 (by omega) hx2) ?_;try simp (disch := omega) only [go_sem, g2, dTok]
   try simp (disch := omega) only [go_sem, g2, hll, hfl, hl0, hl1]
   refine DCalls.monoR (rpart_spec G K y 2 (by omega) hy2) ?_;try simp (disch := omega) only [go_sem, g2, dTok]
   intro q5 hq5; dsimp only at hq5;have nq5 : r2 ≠ q5 := none_ne hq5 g2;try simp (disch := omega) only [go_sem, g2, nq5, dTok, repl1, repl2, repl3, List.length_cons, List.length_nil, List.drop_succ_cons, List.drop_zero, List.drop_nil, List.cons_append, List.nil_append, List.append_nil]
   refine DCalls.monoR (joinL' G K [partE x 2, [kTok wIn], partE y 2] hq5 rfl (by simp) hj) ?_;try simp (disch := omega) only [go_sem, g2, dTok, nq5]
   try simp (disch := omega) only [go_sem, g2, hll]
   exact DFin.sub hs (.refl ⟨rfl, rfl⟩)
 ·simp (disch := omega) only [go_sem, g2, hk];refine DCalls.monoR (wkey_spec G K wNot) ?_;try simp (disch := omega) only [go_sem, g2, dTok, nq1]
  refine DCalls.monoR (wkey_spec G K wIn) ?_;try simp (disch := omega) only [go_sem, g2, dTok, nq1]
  intro q2 hq2; dsimp only at hq2;have nq2 : r2 ≠ q2 := none_ne hq2 g2;try simp (disch := omega) only [go_sem, g2, nq2, dTok, repl1, repl2, repl3, List.length_cons, List.length_nil, List.drop_succ_cons, List.drop_zero, List.drop_nil, List.cons_append, List.nil_append, List.append_nil]
  refine DCalls.monoR (one2 G K (kTok wNot) (kTok wIn) hq2) ?_;try simp (disch := omega) only [go_sem, g2, dTok, nq1, nq2]
  rcases hsh with ⟨x, y, z, hx⟩ | ⟨x, y, hx, hy⟩
  ·have ht : toksE e = [[partE x 2, [kTok wNot, kTok wIn], partE y 2].flatten, [sTok wDots], partE z 2].flatten := by
    rw [toks14 hk, tailE, if_pos (by rw [hx]; rfl), ← wt_dots];simp only [← wt_in, ← wt_not];unfold pE tE; rw [hx]; simp [partE]
   have hj : [[partE x 2, [kTok wNot, kTok wIn], partE y 2].flatten, [sTok wDots], partE z 2].flatten.length ≤ 100000000 := by rw [← ht]; omega
   rw [ht];have hj1 : [partE x 2, [kTok wNot, kTok wIn], partE y 2].flatten.length ≤ 100000000 := by simp at hj ⊢; omega
   have hll : e.l.length = 3 := by rw [hx]; rfl
   have hl0 := lx0 hx;have hl1 := lx1 hx;have hl2 := lx2 hx;obtain ⟨hx1, hx2⟩ := ih x (mem_parts_l (by rw [hx]; simp));obtain ⟨hy1, hy2⟩ := ih y (mem_parts_l (by rw [hx]; simp));obtain ⟨hz1, hz2⟩ := ih z (mem_parts_l (by rw [hx]; simp));refine dwp_draws (by kernel_rfl) (.take 0 (.take 1 (.take 2 (.take 3 (.take 5 (.take 6 (.take 7 (.take 8 (.take 9 (.go 4 [9, 7] (.go 10 [] (.go 11 [] (.go 12 [] (.take 13 .done)))))))))))))) (by kernel_rfl) ?_;simp (disch := omega) only [go_sem, g2, hll, hfl, hl0, hl1, hl2];refine DCalls.monoR (rpart_spec G K x 2 (by omega) hx2) ?_;try simp (disch := omega) only [go_sem, g2, dTok]
   try simp (disch := omega) only [go_sem, g2, hll, hfl, hl0, hl1, hl2]
   refine DCalls.monoR (rpart_spec G K y 2 (by omega) hy2) ?_;try simp (disch := omega) only [go_sem, g2, dTok]
   intro q5 hq5; dsimp only at hq5;have nq5 : r2 ≠ q5 := none_ne hq5 g2;try simp (disch := omega) only [go_sem, g2, nq5, dTok, repl1, repl2, repl3, List.length_cons, List.length_nil, List.drop_succ_cons, List.drop_zero, List.drop_nil, List.cons_append, List.nil_append, List.append_nil]
   refine DCalls.monoR (joinL' G K [partE x 2, [kTok wNot, kTok wIn], partE y 2] hq5 rfl (by simp) hj1) ?_;try simp (disch := omega) only [go_sem, g2, dTok, nq5]
   simp (disch := omega) only [go_sem, g2, hll];refine dwp_draws (by kernel_rfl) (.take 0 (.take 4 (.take 5 (.take 6 (.take 7 (.go 1 [7, 5] (.go 2 [7, 5] (.go 3 [7, 5] (.go 8 [] (.go 9 [] (.go 10 [] (.take 11 .done)))))))))))) (by kernel_rfl) ?_;simp (disch := omega) only [go_sem, g2, hll, hfl, hl0, hl1, hl2];refine DCalls.monoR (wsym_spec G K wDots) ?_;try simp (disch := omega) only [go_sem, g2, dTok]
   intro q6 hq6; dsimp only at hq6;have nq6 : r2 ≠ q6 := none_ne hq6 g2;try simp (disch := omega) only [go_sem, g2, nq6, dTok, repl1, repl2, repl3, List.length_cons, List.length_nil, List.drop_succ_cons, List.drop_zero, List.drop_nil, List.cons_append, List.nil_append, List.append_nil]
   refine DCalls.monoR (one1 G K (sTok wDots) hq6) ?_;try simp (disch := omega) only [go_sem, g2, dTok, nq6]
   try simp (disch := omega) only [go_sem, g2, hll, hfl, hl0, hl1, hl2]
   refine DCalls.monoR (rpart_spec G K z 2 (by omega) hz2) ?_;try simp (disch := omega) only [go_sem, g2, dTok, nq6]
   intro q7 hq7; dsimp only at hq7;have nq7 : r2 ≠ q7 := none_ne hq7 g2;try simp (disch := omega) only [go_sem, g2, nq7, dTok, repl1, repl2, repl3, List.length_cons, List.length_nil, List.drop_succ_cons, List.drop_zero, List.drop_nil, List.cons_append, List.nil_append, List.append_nil]
   refine DCalls.monoR (joinL' G K [[partE x 2, [kTok wNot, kTok wIn], partE y 2].flatten, [sTok wDots], partE z 2] hq7 rfl (by simp) hj) ?_;try simp (disch := omega) only [go_sem, g2, dTok, nq6, nq7]
   exact DFin.sub hs (.refl ⟨rfl, rfl⟩)
  ·have hpy : partE y 2 = toksE y := by
    have : levelE y = 5 := lv5 (by rw [namedE, Bool.and_eq_true, decide_eq_true_eq, decide_eq_true_eq] at hy; omega);rw [partE, this]; rfl
   have ht : toksE e = [partE x 2, [kTok wNot, kTok wIn], partE y 2].flatten := by
    rw [toks14 hk, tailE, if_neg (by rw [hx]; simp), hpy];simp only [← wt_in, ← wt_not];unfold pE tE; rw [hx]; simp [partE]
   have hj : [partE x 2, [kTok wNot, kTok wIn], partE y 2].flatten.length ≤ 100000000 := by rw [← ht]; omega
   rw [ht];have hll : e.l.length = 2 := by rw [hx]; rfl
   have hl0 := lx0 hx;have hl1 := lx1 hx;obtain ⟨hx1, hx2⟩ := ih x (mem_parts_l (by rw [hx]; simp));obtain ⟨hy1, hy2⟩ := ih y (mem_parts_l (by rw [hx]; simp));refine dwp_draws (by kernel_rfl) (.take 0 (.take 1 (.take 2 (.take 3 (.take 5 (.take 6 (.take 7 (.take 8 (.take 9 (.go 4 [9, 7] (.go 10 [] (.go 11 [] (.go 12 [] (.take 13 .done)))))))))))))) (by kernel_rfl) ?_;simp (disch := omega) only [go_sem, g2, hll, hfl, hl0, hl1];refine DCalls.monoR (rpart_spec G K x 2 (by omega) hx2) ?_;try simp (disch := omega) only [go_sem, g2, dTok]
   try simp (disch := omega) only [go_sem, g2, hll, hfl, hl0, hl1]
   refine DCalls.monoR (rpart_spec G K y 2 (by omega) hy2) ?_;try simp (disch := omega) only [go_sem, g2, dTok]
   intro q5 hq5; dsimp only at hq5;have nq5 : r2 ≠ q5 := none_ne hq5 g2;try simp (disch := omega) only [go_sem, g2, nq5, dTok, repl1, repl2, repl3, List.length_cons, List.length_nil, List.drop_succ_cons, List.drop_zero, List.drop_nil, List.cons_append, List.nil_append, List.append_nil]
   refine DCalls.monoR (joinL' G K [partE x 2, [kTok wNot, kTok wIn], partE y 2] hq5 rfl (by simp) hj) ?_;try simp (disch := omega) only [go_sem, g2, dTok, nq5]
   try simp (disch := omega) only [go_sem, g2, hll]
   exact DFin.sub hs (.refl ⟨rfl, rfl⟩)
end
end Go.Dl

-- Chapter 3: the reference's Tokens, ArgTokens, ChoiceTokens; ExprTexts.
namespace Go.Dl
open Go Go.Proofs
set_option maxRecDepth 100000
section
variable {G : Nat → DVal}
theorem rall_ok (G : Nat → DVal) (e : Ex) : ∀ d, validE d e = true → sizeE e ≤ 5000 → AllOk Tryz.prog G 87 e := by
 refine Ex.ind (p := fun e => ∀ d, validE d e = true → sizeE e ≤ 5000 → AllOk Tryz.prog G 87 e) (fun e ih d hv hsz => ?_) e;obtain ⟨hf, hp⟩ := valid_fields hv;have hlen := toksE_len e d hv;exact ⟨by omega, fun H => rall_step G e hf (by omega) (fun x hx => ih x hx (d + 1) (hp x hx) (by have := sizeE_parts hx; omega)) H⟩
theorem may_size {e : Ex} (h : mayE e = true) : sizeE e ≤ 256 := by
 rw [mayE, Bool.and_eq_true, decide_eq_true_eq] at h; exact h.2
set_option maxHeartbeats 4000000 in
theorem rTokensE_spec (G : Nat → DVal) (H : DHeap) (e : Ex) (hb : bigE e ≤ 100000000000) : DCalls Tryz.prog G 37 [.agg (dEx e)] H (DRet (.tuple [dToks (tokensE e).1, dI (tokensE e).2]) H) := by
 rw [tokensE];refine dcalls_intro Tryz.func37 Tryz.call37 rfl (by kernel_rfl) ?_;simp (disch := omega) only [go_sem, DVal.cells];intro r2 hr2; dsimp only at hr2;obtain ⟨K, hK⟩ : ∃ K', K' = upd H r2 (some (.cells (dEx e) 27)) := ⟨_, rfl⟩;rw [← hK];have g2 : K r2 = some (.cells (dEx e) 27) := by rw [hK]; exact upd_same _ _ _
 have g3 := g2;have hs : Sub H K := by rw [hK]; exact (Sub.refl H).new hr2 _
 simp (disch := omega) only [go_sem, g2];refine DCalls.monoR (rmay_spec G K e hb) ?_;try simp (disch := omega) only [go_sem, g2, g3]
 cases hm : mayE e with
 | false =>
  simp (disch := omega) only [go_sem];exact Seen.fin hs (Seen.tuple (.cons (Seen.nil hs) (Seens.keep hs _))) ⟨rfl, rfl⟩
 | true =>
  simp (disch := omega) only [go_sem, g2];have hsz : sizeE e ≤ 5000 := by have := may_size hm; omega
  refine DCalls.monoR ((rall_ok G e 1 (may_valid hm) hsz).2 K) ?_;try simp (disch := omega) only [go_sem, g2, g3]
  exact DFin.sub hs (.refl ⟨rfl, rfl⟩)
set_option maxHeartbeats 4000000 in
theorem rTokensAs_spec (G : Nat → DVal) (H : DHeap) (l : List As) (hb : bigAs l ≤ 90000000000) : DCalls Tryz.prog G 39 [dAl l] H (DRet (.tuple [dToks (tokensAs l).1, dI (tokensAs l).2]) H) := by
 rw [tokensAs];refine dcalls_intro Tryz.func39 Tryz.call39 rfl (by kernel_rfl) ?_;simp (disch := omega) only [go_sem];refine (rmayArgs_spec G H l hb).mono ?_;rintro _ H1 ⟨rfl, rfl⟩;cases hm : mayAs l with
 | false =>
  simp (disch := omega) only [go_sem];exact Seen.fin (Sub.refl _) (Seen.tuple (.cons (Seen.nil (Sub.refl _)) (Seens.keep (Sub.refl _) _))) ⟨rfl, rfl⟩
 | true =>
  have hlen := mayAs_len hm;obtain ⟨h1, h2, -⟩ := mayAs_valid hm;have hll : l.length ≤ 1000000 := by
   have ha := (ff7 rfl (valid_fields (may_valid hm)).1).2.1;change argsOk l = true at ha;rw [argsOk, Bool.and_eq_true, Bool.and_eq_true, Bool.and_eq_true, decide_eq_true_eq, decide_eq_true_eq] at ha;omega
  have hsz : ∀ a ∈ l, ∀ x ∈ partsA a, sizeE x ≤ 5000 := fun a ha x hx => by
   have h3 := may_size hm;have h4 : sizeE x < sizeE (.mk 7 0 0 [] [exX] l 0 0 0) := sizeE_parts (mem_parts_a (e := .mk 7 0 0 [] [exX] l 0 0 0) ha hx);omega
  have hok : ∀ a ∈ l, ∀ x ∈ partsA a, AllOk Tryz.prog G 87 x := fun a ha x hx => rall_ok G x 2 (h2 a ha x hx) (hsz a ha x hx);simp (disch := omega) only [go_sem];refine ((rargs_own G H1 l hll h1 (fun a ha => ⟨hok a ha _ (mem_partsA_e a), fun c hc x hx => hok a ha x (mem_partsA_c hc hx)⟩) (by omega)).frozenJ).mono ?_;rintro _ H2 ⟨rfl, rfl⟩;simp (disch := omega) only [go_sem];exact DFin.refl ⟨rfl, rfl⟩
set_option maxHeartbeats 4000000 in
theorem rTokensCs_spec (G : Nat → DVal) (H : DHeap) (l : List Ch) (hb : bigCs l ≤ 90000000000) : DCalls Tryz.prog G 41 [dCl l] H (DRet (.tuple [dToks (tokensCs l).1, dI (tokensCs l).2]) H) := by
 rw [tokensCs];refine dcalls_intro Tryz.func41 Tryz.call41 rfl (by kernel_rfl) ?_;simp (disch := omega) only [go_sem];refine (rmayChoices_spec G H l hb).mono ?_;rintro _ H1 ⟨rfl, rfl⟩;cases hm : mayCs l with
 | false =>
  simp (disch := omega) only [go_sem];exact Seen.fin (Sub.refl _) (Seen.tuple (.cons (Seen.nil (Sub.refl _)) (Seens.keep (Sub.refl _) _))) ⟨rfl, rfl⟩
 | true =>
  have hlen := mayCs_len hm;obtain ⟨h1, -⟩ := mayCs_valid hm;have hll : l.length ≤ 1000000 := by
   rw [mayCs, Bool.and_eq_true] at hm;have h2 := hm.1;simp only [rightCs, Bool.and_eq_true, decide_eq_true_eq] at h2;omega
  simp (disch := omega) only [go_sem];refine ((rchoiceT_own G H1 l (n := l.length) hll (fun c hc => (h1 c hc).1) (fun c hc x hx => rall_ok G x 1 (may_valid ((h1 c hc).2 x hx)) (by have := may_size ((h1 c hc).2 x hx); omega)) (by omega)).frozenJ).mono ?_;rintro _ H2 ⟨rfl, rfl⟩;simp (disch := omega) only [go_sem];exact DFin.refl ⟨rfl, rfl⟩
theorem tokensE_le (e : Ex) : (tokensE e).1.length ≤ 1000000 := by
 rw [tokensE]; split
 ·have := may_len ‹_›; dsimp only; omega
 ·exact Nat.zero_le _
theorem tokensAs_le (l : List As) : (tokensAs l).1.length ≤ 1000000 := by
 rw [tokensAs]; split
 ·have := mayAs_len ‹_›; dsimp only; omega
 ·exact Nat.zero_le _
theorem tokensCs_le (l : List Ch) : (tokensCs l).1.length ≤ 1000000 := by
 rw [tokensCs]; split
 ·have := mayCs_len ‹_›; dsimp only; omega
 ·exact Nat.zero_le _
set_option maxHeartbeats 8000000 in
theorem exprTexts_spec (hG : GX G) (H : DHeap) (a : Ex) (la : List As) (lc : List Ch) (ha : FitE a) (hla : FitAs la) (hlc : FitCs lc) :
  DCalls Tryz.prog G 8 [.agg (dEx a), .agg [dAl la, dCl lc]] H (DRet (.bool true) H) := by
 have hA := ha.1;have hLA := hla.1;have hLC := hlc.1;have t1 := tokensE_le a;have t2 := tokensAs_le la;have t3 := tokensCs_le lc;refine dcalls_intro Tryz.func8 Tryz.call8 rfl (by kernel_rfl) ?_;simp (disch := omega) only [go_sem, DVal.cells];intro r2 hr2; dsimp only at hr2;obtain ⟨K2, hK2⟩ : ∃ K', K' = upd H r2 (some (.cells (dEx a) 27)) := ⟨_, rfl⟩;rw [← hK2];have gr2 : K2 r2 = some (.cells (dEx a) 27) := by rw [hK2]; exact upd_same _ _ _
 have sK2 : Sub H K2 := by rw [hK2]; exact (Sub.refl _).new hr2 _
 simp (disch := omega) only [go_sem, DVal.cells];intro r3 hr3; dsimp only at hr3;obtain ⟨K, hK⟩ : ∃ K', K' = upd K2 r3 (some (.cells [dAl la, dCl lc] 42)) := ⟨_, rfl⟩;rw [← hK];have gr3 : K r3 = some (.cells [dAl la, dCl lc] 42) := by rw [hK]; exact upd_same _ _ _
 have sK : Sub K2 K := by rw [hK]; exact (Sub.refl _).new hr3 _
 have g2 : K r2 = some (.cells (dEx a) 27) := sK _ _ gr2;have g3 := gr3;have t : Sub H K := sK2.trans sK;clear sK sK2 gr2 gr3 hK hK2;simp (disch := omega) only [go_sem, g2, g3];refine DCalls.monoR (tokens_spec hG K a ha.fit) ?_;try simp (disch := omega) only [go_sem, g2, g3]
 refine DCalls.monoR (rTokensE_spec G K a (by omega)) ?_;try simp (disch := omega) only [go_sem, g2, g3]
 refine DCalls.monoR (argTokens_spec hG K la (by omega) hla.2) ?_;try simp (disch := omega) only [go_sem, g2, g3]
 refine DCalls.monoR (rTokensAs_spec G K la (by omega)) ?_;try simp (disch := omega) only [go_sem, g2, g3]
 refine DCalls.monoR (choiceTokens_spec hG K lc (by omega) hlc.2) ?_;try simp (disch := omega) only [go_sem, g2, g3]
 refine DCalls.monoR (rTokensCs_spec G K lc (by omega)) ?_;try simp (disch := omega) only [go_sem, g2, g3]
 refine DCalls.monoR (eqL_spec G K _ _ (by omega)) ?_;try simp (disch := omega) only [go_sem, g2, g3]
 refine DCalls.monoR (eqL_spec G K _ _ (by omega)) ?_;try simp (disch := omega) only [go_sem, g2, g3]
 refine DCalls.monoR (eqL_spec G K _ _ (by omega)) ?_;try simp (disch := omega) only [go_sem, g2, g3]
 refine DCalls.monoR (awake_spec hG K) ?_;try simp (disch := omega) only [go_sem, g2, g3]
 exact DFin.sub t (.refl ⟨rfl, rfl⟩)
end
end Go.Dl
