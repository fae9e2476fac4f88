/- The data level and the contracts of the functions that are reached (part 10). -/
import Derived.Test.YtfekogpdmjbdkaaGreatDoorPpi
set_option linter.unusedSimpArgs false
set_option linter.unusedVariables false
set_option linter.unusedSectionVars false
-- Chapter 3: the package's writer: bounds, operators, membership, choices.
namespace Go.Dl
open Go Go.Proofs
set_option maxRecDepth 100000
theorem lx0 {e : List Ex} {x : Ex} {r : List Ex} (h : e = x :: r) : (e.flatMap dEx).take 9 = dEx x := by
 rw [h, List.flatMap_cons, List.take_append_of_le_length (by rw [dEx_len]; omega), List.take_of_length_le (by rw [dEx_len]; omega)]
theorem lx1 {e : List Ex} {x y : Ex} {r : List Ex} (h : e = x :: y :: r) : ((e.flatMap dEx).drop 9).take 9 = dEx y := by
 rw [h, List.flatMap_cons, List.drop_left' (dEx_len x)];exact lx0 rfl
theorem lx2 {e : List Ex} {x y z : Ex} {r : List Ex} (h : e = x :: y :: z :: r) : ((e.flatMap dEx).drop 18).take 9 = dEx z := by
 rw [h, List.flatMap_cons, show 18 = 9 + 9 from rfl, ← List.drop_drop, List.drop_left' (dEx_len x)];exact lx1 rfl
section
variable {G : Nat → DVal}
set_option maxHeartbeats 4000000 in
theorem wbounds_spec (hG : GX G) (a b : Ex) (ha : WrC Tryz.prog G 53 [.agg (dEx a)] (toksE a)) (hb : WrC Tryz.prog G 53 [.agg (dEx b)] (toksE b)) : WrC Tryz.prog G 143 [.agg (dEx a), .agg (dEx b)] (partE a 2 ++ wTok wDots :: partE b 2) := by
 intro B r ts H hB hlen hw;rw [List.length_append, List.length_cons] at hlen;refine dcalls_intro Tryz.func143 Tryz.call143 rfl (by kernel_rfl) ?_;simp (disch := omega) only [go_sem, DVal.cells];intro r4 hr4; dsimp only at hr4;obtain ⟨K, hK⟩ : ∃ K', K' = upd H r4 (some (.cells (dEx a) 27)) := ⟨_, rfl⟩;rw [← hK];have gr4 : K r4 = some (.cells (dEx a) 27) := by rw [hK]; exact upd_same _ _ _
 have hwK : WAt (upd B r4 (some (.cells (dEx a) 27))) r ts K := by rw [hK]; exact hw.frame hr4 _
 have n4 : r ≠ r4 := hw.ne hr4;have hB4 : B r4 = none := (hw.lo hr4).1;simp (disch := omega) only [go_sem, DVal.cells];intro r5 hr5; dsimp only at hr5;obtain ⟨L, hL⟩ : ∃ K', K' = upd K r5 (some (.cells (dEx b) 27)) := ⟨_, rfl⟩;rw [← hL];have gr5 : L r5 = some (.cells (dEx b) 27) := by rw [hL]; exact upd_same _ _ _
 have hwL : WAt (upd (upd B r4 (some (.cells (dEx a) 27))) r5 (some (.cells (dEx b) 27))) r ts L := by rw [hL]; exact hwK.frame hr5 _
 have n5 : r ≠ r5 := hwK.ne hr5;have hB5 := (hwK.lo hr5).1;have n45 : r4 ≠ r5 := none_ne hr5 gr4;have gr4' : L r4 = some (.cells (dEx a) 27) := by rw [hL]; exact keepU gr4 n45
 obtain ⟨C, hC⟩ : ∃ C, C = upd (upd B r4 (some (.cells (dEx a) 27))) r5 (some (.cells (dEx b) 27)) := ⟨_, rfl⟩;rw [← hC] at hwL;have hCr : C r = none := by rw [hC, upd_ne _ _ _ _ n5, upd_ne _ _ _ _ n4]; exact hB
 have c4 : C r4 = some (.cells (dEx a) 27) := by rw [hC]; exact keepU (upd_same _ _ _) n45
 have c5 : C r5 = some (.cells (dEx b) 27) := by rw [hC]; exact upd_same _ _ _
 simp (disch := omega) only [go_sem, gr4'];refine (wpart_spec hG a 2 ha C r _ _ hCr (by omega) hwL).mono ?_;rintro _ H1 ⟨rfl, h1⟩;simp (disch := omega) only [go_sem];intro q1 hq1; dsimp only at hq1;simp (disch := omega) only [go_sem];refine (put1 hG wDots hq1 hCr (by simp; omega) h1).mono ?_;rintro _ H2 ⟨rfl, h2⟩;have g5 := h2.keep c5 n5.symm;simp (disch := omega) only [go_sem, g5];refine (wpart_spec hG b 2 hb C r _ _ hCr (by simp; omega) h2).mono ?_;rintro _ H3 ⟨rfl, h3⟩;simp (disch := omega) only [go_sem];refine DFin.refl ⟨rfl, ?_⟩;rw [hC] at h3;have := (h3.drop hB5).drop hB4;simpa using this
set_option maxHeartbeats 4000000 in
theorem wmona_spec (hG : GX G) (e x : Ex) (o : Nat) (hl : e.l = [x]) (ho : e.oper = o) (ho2 : o < 22) (hx : WrC Tryz.prog G 53 [.agg (dEx x)] (toksE x)) : WrC Tryz.prog G 110 [.agg (dEx e)] ((wordsN o).map wTok ++ partE x (leastM e)) := by
 intro B r ts H hB hlen hw;rw [List.length_append, List.length_map] at hlen;have hl0 := lx0 hl;have hfl := flat_len dEx_len e.l;have hll : e.l.length = 1 := by rw [hl]; rfl
 have hwo := wordsL_get ho2;have hwl : (wordsL.map dW).length = 22 := rfl;refine dcalls_intro Tryz.func110 Tryz.call110 rfl (by kernel_rfl) ?_;simp (disch := omega) only [go_sem, DVal.cells];intro r3 hr3; dsimp only at hr3;obtain ⟨K, hK⟩ : ∃ K', K' = upd H r3 (some (.cells (dEx e) 27)) := ⟨_, rfl⟩;rw [← hK];have gr3 : K r3 = some (.cells (dEx e) 27) := by rw [hK]; exact upd_same _ _ _
 have hwK : WAt (upd B r3 (some (.cells (dEx e) 27))) r ts K := by rw [hK]; exact hw.frame hr3 _
 have n3 : r ≠ r3 := hw.ne hr3;have hB3 : B r3 = none := (hw.lo hr3).1;have hBK : upd B r3 (some (.cells (dEx e) 27)) r = none := by rw [upd_ne _ _ _ _ n3]; exact hB
 simp (disch := omega) only [go_sem, gr3];refine (level_spec G K e).mono ?_;rintro _ K1 ⟨rfl, rfl⟩;by_cases c : levelE e = 2
 ·have hM : leastM e = 3 := by rw [leastM, if_pos c]
  rw [hM] at hlen ⊢
  simp (disch := omega) only [go_sem, c];refine dwp_draws (by kernel_rfl) (.take 0 (.take 2 (.take 3 (.go 1 [3] (.take 4 (.take 5 (.go 6 [] .done))))))) (by kernel_rfl) ?_;simp (disch := omega) only [go_sem, gr3];refine (words_spec G K1).mono ?_;rintro _ K2 ⟨rfl, rfl⟩;simp (disch := omega) only [go_sem, gr3, ho, dWords, hwo, hwl, Int.toNat_natCast];refine (put_spec hG (wordsN o) _ r _ _ hBK (by rw [List.length_map]; omega) hwK).mono ?_;rintro _ H1 ⟨rfl, h1⟩;have g3 := h1.keep (upd_same _ _ _) n3.symm;simp (disch := omega) only [go_sem, g3, hll, hl0, hfl];refine (wpart_spec hG x _ hx _ r _ _ hBK (by rw [List.length_append, List.length_map]; omega) h1).mono ?_;rintro _ H2 ⟨rfl, h2⟩;simp (disch := omega) only [go_sem];refine DFin.refl ⟨rfl, ?_⟩;have := h2.drop hB3;rw [List.append_assoc] at this;exact this
 ·have hM : leastM e = 5 := by rw [leastM, if_neg c]
  rw [hM] at hlen ⊢
  simp (disch := omega) only [go_sem, c];refine dwp_draws (by kernel_rfl) (.take 0 (.take 2 (.take 3 (.go 1 [3] (.take 4 (.take 5 (.go 6 [] .done))))))) (by kernel_rfl) ?_;simp (disch := omega) only [go_sem, gr3];refine (words_spec G K1).mono ?_;rintro _ K2 ⟨rfl, rfl⟩;simp (disch := omega) only [go_sem, gr3, ho, dWords, hwo, hwl, Int.toNat_natCast];refine (put_spec hG (wordsN o) _ r _ _ hBK (by rw [List.length_map]; omega) hwK).mono ?_;rintro _ H1 ⟨rfl, h1⟩;have g3 := h1.keep (upd_same _ _ _) n3.symm;simp (disch := omega) only [go_sem, g3, hll, hl0, hfl];refine (wpart_spec hG x _ hx _ r _ _ hBK (by rw [List.length_append, List.length_map]; omega) h1).mono ?_;rintro _ H2 ⟨rfl, h2⟩;simp (disch := omega) only [go_sem];refine DFin.refl ⟨rfl, ?_⟩;have := h2.drop hB3;rw [List.append_assoc] at this;exact this
set_option maxHeartbeats 4000000 in
theorem wdyad_spec (hG : GX G) (e x y : Ex) (o : Nat) (hl : e.l = [x, y]) (ho : e.oper = o) (ho2 : o < 22) (hx : WrC Tryz.prog G 53 [.agg (dEx x)] (toksE x)) (hy : WrC Tryz.prog G 53 [.agg (dEx y)] (toksE y)) :
  WrC Tryz.prog G 111 [.agg (dEx e)] (partE x (leastL e) ++ ((wordsN o).map wTok ++ partE y (leastR e))) := by
 intro B r ts H hB hlen hw;rw [List.length_append, List.length_append, List.length_map] at hlen;have hl0 := lx0 hl;have hl1 := lx1 hl;have hfl := flat_len dEx_len e.l;have hll : e.l.length = 2 := by rw [hl]; rfl
 have hwo := wordsL_get ho2;have hwl : (wordsL.map dW).length = 22 := rfl;have hlv := level_ge e;have g0 : e.l.getD 0 ex0 = x := by rw [hl]; rfl
 have hx0 : (e.l.flatMap dEx)[0]? = some (.int .u8 x.kind) := by rw [hl, List.flatMap_cons, dEx_eq]; rfl
 have hx1 : (e.l.flatMap dEx)[1]? = some (.int .u8 x.oper) := by rw [hl, List.flatMap_cons, dEx_eq]; rfl
 refine dcalls_intro Tryz.func111 Tryz.call111 rfl (by kernel_rfl) ?_;simp (disch := omega) only [go_sem, DVal.cells];intro r3 hr3; dsimp only at hr3;obtain ⟨K, hK⟩ : ∃ K', K' = upd H r3 (some (.cells (dEx e) 27)) := ⟨_, rfl⟩;rw [← hK];have gr3 : K r3 = some (.cells (dEx e) 27) := by rw [hK]; exact upd_same _ _ _
 have hwK : WAt (upd B r3 (some (.cells (dEx e) 27))) r ts K := by rw [hK]; exact hw.frame hr3 _
 have n3 : r ≠ r3 := hw.ne hr3;have hB3 : B r3 = none := (hw.lo hr3).1;have hBK : upd B r3 (some (.cells (dEx e) 27)) r = none := by rw [upd_ne _ _ _ _ n3]; exact hB
 simp (disch := omega) only [go_sem, gr3];refine (level_spec G K e).mono ?_;rintro _ K1 ⟨rfl, rfl⟩;have hwl1 : IntKind.i64.wrap (levelE e + 1) = levelE e + 1 := by rw [IntKind.wrap_i64]; omega
 by_cases c1 : levelE e = 1
 ·have hL : leastL e = 2 := by rw [leastL, if_pos c1]
  have hR : leastR e = 2 := by rw [leastR, if_pos c1]
  rw [hL, hR] at hlen ⊢
  simp (disch := omega) only [go_sem, c1, hwl1];simp (disch := omega) only [go_sem, gr3, hll, hl0, hfl];refine (wpart_spec hG x _ hx _ r _ _ hBK (by omega) hwK).mono ?_;rintro _ H1 ⟨rfl, h1⟩;have g3 := h1.keep (upd_same _ _ _) n3.symm;simp (disch := omega) only [go_sem];refine dwp_draws (by kernel_rfl) (.take 0 (.take 2 (.take 3 (.go 1 [3] (.take 4 (.take 5 (.go 6 [] .done))))))) (by kernel_rfl) ?_;simp (disch := omega) only [go_sem, g3];refine (words_spec G H1).mono ?_;rintro _ K2 ⟨rfl, rfl⟩;simp (disch := omega) only [go_sem, g3, ho, dWords, hwo, hwl, Int.toNat_natCast];refine (put_spec hG (wordsN o) _ r _ _ hBK (by rw [List.length_append, List.length_map]; omega) h1).mono ?_;rintro _ H3 ⟨rfl, h3⟩;have g3' := h3.keep (upd_same _ _ _) n3.symm;simp (disch := omega) only [go_sem, g3', hll, hl1, hfl];refine (wpart_spec hG y _ hy _ r _ _ hBK (by rw [List.length_append, List.length_append, List.length_map]; omega) h3).mono ?_;rintro _ H4 ⟨rfl, h4⟩;simp (disch := omega) only [go_sem];refine DFin.refl ⟨rfl, ?_⟩;have := h4.drop hB3;rw [List.append_assoc, List.append_assoc] at this;exact this
 ·have hR : leastR e = levelE e + 1 := by rw [leastR, if_neg c1]
  by_cases c0 : levelE e = 0
  ·have hR : leastR e = 1 := by rw [leastR, if_neg c1, c0]; rfl
   by_cases ck : x.kind = 12
   ·by_cases co : x.oper = (o : Int)
    ·have hL : leastL e = 0 := by rw [leastL, if_neg c1, g0, ho, if_neg (by rintro ⟨_, a | a⟩; exact a ck; exact a co), c0]
     rw [hL, hR] at hlen ⊢
     have c01 : ¬ (0 : Int) = 1 := by decide
     simp (disch := omega) only [go_sem, c0, hwl1, c01];refine dwp_draws (by kernel_rfl) (.take 0 (.take 1 (.take 2 (.take 3 (.take 4 (.take 5 (.take 6 (.take 7 (.take 8 (.take 9 (.take 10 (.take 11 (.take 12 (.take 13 (.take 14 (.take 15 (.take 16 (.take 17 (.take 18 (.take 19 (.take 20 .done))))))))))))))))))))) (by kernel_rfl) ?_;simp (disch := omega) only [go_sem, gr3, hll, hfl, hx0, hx1, ck, co, ho];simp (disch := omega) only [go_sem, gr3, hll, hl0, hfl];refine (wpart_spec hG x _ hx _ r _ _ hBK (by omega) hwK).mono ?_;rintro _ H1 ⟨rfl, h1⟩;have g3 := h1.keep (upd_same _ _ _) n3.symm;simp (disch := omega) only [go_sem];refine dwp_draws (by kernel_rfl) (.take 0 (.take 2 (.take 3 (.go 1 [3] (.take 4 (.take 5 (.go 6 [] .done))))))) (by kernel_rfl) ?_;simp (disch := omega) only [go_sem, g3];refine (words_spec G H1).mono ?_;rintro _ K2 ⟨rfl, rfl⟩;simp (disch := omega) only [go_sem, g3, ho, dWords, hwo, hwl, Int.toNat_natCast];refine (put_spec hG (wordsN o) _ r _ _ hBK (by rw [List.length_append, List.length_map]; omega) h1).mono ?_;rintro _ H3 ⟨rfl, h3⟩;have g3' := h3.keep (upd_same _ _ _) n3.symm;simp (disch := omega) only [go_sem, g3', hll, hl1, hfl];refine (wpart_spec hG y _ hy _ r _ _ hBK (by rw [List.length_append, List.length_append, List.length_map]; omega) h3).mono ?_;rintro _ H4 ⟨rfl, h4⟩;simp (disch := omega) only [go_sem];refine DFin.refl ⟨rfl, ?_⟩;have := h4.drop hB3;rw [List.append_assoc, List.append_assoc] at this;exact this
    ·have hL : leastL e = 1 := by rw [leastL, if_neg c1, g0, ho, if_pos ⟨c0, .inr co⟩]
     rw [hL, hR] at hlen ⊢
     simp (disch := omega) only [go_sem, c0, hwl1];refine dwp_draws (by kernel_rfl) (.take 0 (.take 1 (.take 2 (.take 3 (.take 4 (.take 5 (.take 6 (.take 7 (.take 8 (.take 9 (.take 10 (.take 11 (.take 12 (.take 13 (.take 14 (.take 15 (.take 16 (.take 17 (.take 18 (.take 19 (.take 20 .done))))))))))))))))))))) (by kernel_rfl) ?_;simp (disch := omega) only [go_sem, gr3, hll, hfl, hx0, hx1, ck, co, ho];simp (disch := omega) only [go_sem, gr3, hll, hl0, hfl];refine (wpart_spec hG x _ hx _ r _ _ hBK (by omega) hwK).mono ?_;rintro _ H1 ⟨rfl, h1⟩;have g3 := h1.keep (upd_same _ _ _) n3.symm;simp (disch := omega) only [go_sem];refine dwp_draws (by kernel_rfl) (.take 0 (.take 2 (.take 3 (.go 1 [3] (.take 4 (.take 5 (.go 6 [] .done))))))) (by kernel_rfl) ?_;simp (disch := omega) only [go_sem, g3];refine (words_spec G H1).mono ?_;rintro _ K2 ⟨rfl, rfl⟩;simp (disch := omega) only [go_sem, g3, ho, dWords, hwo, hwl, Int.toNat_natCast];refine (put_spec hG (wordsN o) _ r _ _ hBK (by rw [List.length_append, List.length_map]; omega) h1).mono ?_;rintro _ H3 ⟨rfl, h3⟩;have g3' := h3.keep (upd_same _ _ _) n3.symm;simp (disch := omega) only [go_sem, g3', hll, hl1, hfl];refine (wpart_spec hG y _ hy _ r _ _ hBK (by rw [List.length_append, List.length_append, List.length_map]; omega) h3).mono ?_;rintro _ H4 ⟨rfl, h4⟩;simp (disch := omega) only [go_sem];refine DFin.refl ⟨rfl, ?_⟩;have := h4.drop hB3;rw [List.append_assoc, List.append_assoc] at this;exact this
   ·have hL : leastL e = 1 := by rw [leastL, if_neg c1, g0, ho, if_pos ⟨c0, .inl ck⟩]
    rw [hL, hR] at hlen ⊢
    simp (disch := omega) only [go_sem, c0, hwl1];refine dwp_draws (by kernel_rfl) (.take 0 (.take 1 (.take 2 (.take 3 (.take 4 (.take 5 (.take 6 (.take 7 (.take 8 (.take 9 (.take 10 (.take 11 (.take 12 (.take 13 (.take 14 (.take 15 (.take 16 (.take 17 (.take 18 (.take 19 (.take 20 .done))))))))))))))))))))) (by kernel_rfl) ?_;simp (disch := omega) only [go_sem, gr3, hll, hfl, hx0, hx1, ck, ho];simp (disch := omega) only [go_sem, gr3, hll, hl0, hfl];refine (wpart_spec hG x _ hx _ r _ _ hBK (by omega) hwK).mono ?_;rintro _ H1 ⟨rfl, h1⟩;have g3 := h1.keep (upd_same _ _ _) n3.symm;simp (disch := omega) only [go_sem];refine dwp_draws (by kernel_rfl) (.take 0 (.take 2 (.take 3 (.go 1 [3] (.take 4 (.take 5 (.go 6 [] .done))))))) (by kernel_rfl) ?_;simp (disch := omega) only [go_sem, g3];refine (words_spec G H1).mono ?_;rintro _ K2 ⟨rfl, rfl⟩;simp (disch := omega) only [go_sem, g3, ho, dWords, hwo, hwl, Int.toNat_natCast];refine (put_spec hG (wordsN o) _ r _ _ hBK (by rw [List.length_append, List.length_map]; omega) h1).mono ?_;rintro _ H3 ⟨rfl, h3⟩;have g3' := h3.keep (upd_same _ _ _) n3.symm;simp (disch := omega) only [go_sem, g3', hll, hl1, hfl];refine (wpart_spec hG y _ hy _ r _ _ hBK (by rw [List.length_append, List.length_append, List.length_map]; omega) h3).mono ?_;rintro _ H4 ⟨rfl, h4⟩;simp (disch := omega) only [go_sem];refine DFin.refl ⟨rfl, ?_⟩;have := h4.drop hB3;rw [List.append_assoc, List.append_assoc] at this;exact this
  ·have hL : leastL e = levelE e := by rw [leastL, if_neg c1, if_neg (by rintro ⟨a, _⟩; exact c0 a)]
   rw [hL, hR] at hlen ⊢
   simp (disch := omega) only [go_sem, c0, c1, hwl1];refine dwp_draws (by kernel_rfl) (.take 0 (.take 1 (.take 2 (.take 3 (.take 4 (.take 5 (.take 6 (.take 7 (.take 8 (.take 9 (.take 10 (.take 11 (.take 12 (.take 13 (.take 14 (.take 15 (.take 16 (.take 17 (.take 18 (.take 19 (.take 20 .done))))))))))))))))))))) (by kernel_rfl) ?_;simp (disch := omega) only [go_sem, gr3, hll, hfl, hx0, hx1, ho, c0];simp (disch := omega) only [go_sem, gr3, hll, hl0, hfl];refine (wpart_spec hG x _ hx _ r _ _ hBK (by omega) hwK).mono ?_;rintro _ H1 ⟨rfl, h1⟩;have g3 := h1.keep (upd_same _ _ _) n3.symm;simp (disch := omega) only [go_sem];refine dwp_draws (by kernel_rfl) (.take 0 (.take 2 (.take 3 (.go 1 [3] (.take 4 (.take 5 (.go 6 [] .done))))))) (by kernel_rfl) ?_;simp (disch := omega) only [go_sem, g3];refine (words_spec G H1).mono ?_;rintro _ K2 ⟨rfl, rfl⟩;simp (disch := omega) only [go_sem, g3, ho, dWords, hwo, hwl, Int.toNat_natCast];refine (put_spec hG (wordsN o) _ r _ _ hBK (by rw [List.length_append, List.length_map]; omega) h1).mono ?_;rintro _ H3 ⟨rfl, h3⟩;have g3' := h3.keep (upd_same _ _ _) n3.symm;simp (disch := omega) only [go_sem, g3', hll, hl1, hfl];refine (wpart_spec hG y _ hy _ r _ _ hBK (by rw [List.length_append, List.length_append, List.length_map]; omega) h3).mono ?_;rintro _ H4 ⟨rfl, h4⟩;simp (disch := omega) only [go_sem];refine DFin.refl ⟨rfl, ?_⟩;have := h4.drop hB3;rw [List.append_assoc, List.append_assoc] at this;exact this
set_option maxHeartbeats 4000000 in
theorem winside_spec (hG : GX G) (e x : Ex) (ws : List (List UInt8)) (hl : (∃ y z, e.l = [x, y, z]) ∨ ∃ y, e.l = [x, y]) (hp : ∀ y ∈ e.l, WrC Tryz.prog G 53 [.agg (dEx y)] (toksE y)) :
  WrC Tryz.prog G 112 [.agg (dEx e), dW ws] (partE x 2 ++ (ws.map wTok ++ tailE e)) := by
 intro B r ts H hB hlen hw;rw [List.length_append, List.length_append, List.length_map] at hlen;have hx : WrC Tryz.prog G 53 [.agg (dEx x)] (toksE x) := hp x (by rcases hl with ⟨y, z, hl⟩ | ⟨y, hl⟩ <;> (rw [hl]; simp));have hl0 : (e.l.flatMap dEx).take 9 = dEx x := by rcases hl with ⟨y, z, hl⟩ | ⟨y, hl⟩ <;> exact lx0 hl
 have hfl := flat_len dEx_len e.l;have hlp : 0 < e.l.length := by rcases hl with ⟨y, z, hl⟩ | ⟨y, hl⟩ <;> (rw [hl]; simp)
 refine dcalls_intro Tryz.func112 Tryz.call112 rfl (by kernel_rfl) ?_;simp (disch := omega) only [go_sem, DVal.cells];intro r4 hr4; dsimp only at hr4;obtain ⟨K, hK⟩ : ∃ K', K' = upd H r4 (some (.cells (dEx e) 27)) := ⟨_, rfl⟩;rw [← hK];have gr4 : K r4 = some (.cells (dEx e) 27) := by rw [hK]; exact upd_same _ _ _
 have hwK : WAt (upd B r4 (some (.cells (dEx e) 27))) r ts K := by rw [hK]; exact hw.frame hr4 _
 have n4 : r ≠ r4 := hw.ne hr4;have hB4 : B r4 = none := (hw.lo hr4).1;have hBK : upd B r4 (some (.cells (dEx e) 27)) r = none := by rw [upd_ne _ _ _ _ n4]; exact hB
 rcases hl with ⟨y, z, hl⟩ | ⟨y, hl⟩
 ·have hll : e.l.length = 3 := by rw [hl]; rfl
  have hl1 := lx1 hl;have hl2 := lx2 hl;have ht : tailE e = partE y 2 ++ wTok wDots :: partE z 2 := by unfold tailE pE tE; rw [hl]; rfl
  rw [ht] at hlen ⊢
  simp (disch := omega) only [go_sem, gr4, hl0, hfl, hlp];refine (wpart_spec hG x _ hx _ r _ _ hBK (by omega) hwK).mono ?_;rintro _ H1 ⟨rfl, h1⟩;simp (disch := omega) only [go_sem];refine (put_spec hG ws _ r _ _ hBK (by rw [List.length_append, List.length_map]; omega) h1).mono ?_;rintro _ H2 ⟨rfl, h2⟩;have g2 := h2.keep (upd_same _ _ _) n4.symm;simp (disch := omega) only [go_sem, g2, hll];refine dwp_draws (by kernel_rfl) (.take 0 (.take 1 (.take 2 (.take 3 (.take 4 (.take 5 (.take 6 (.take 7 (.take 8 (.go 9 [] .done)))))))))) (by kernel_rfl) ?_;simp (disch := omega) only [go_sem, g2, hll, hl1, hl2, hfl];refine (wbounds_spec hG y z (hp y (by rw [hl]; simp)) (hp z (by rw [hl]; simp)) _ r _ _ hBK (by rw [List.length_append, List.length_append, List.length_map]; omega) h2).mono ?_;rintro _ H4 ⟨rfl, h4⟩;simp (disch := omega) only [go_sem];refine DFin.refl ⟨rfl, ?_⟩;have := h4.drop hB4;rw [List.append_assoc, List.append_assoc] at this;exact this
 ·have hll : e.l.length = 2 := by rw [hl]; rfl
  have hl1 := lx1 hl;have ht : tailE e = toksE y := by unfold tailE pE tE; rw [hl]; rfl
  rw [ht] at hlen ⊢
  simp (disch := omega) only [go_sem, gr4, hl0, hfl, hlp];refine (wpart_spec hG x _ hx _ r _ _ hBK (by omega) hwK).mono ?_;rintro _ H1 ⟨rfl, h1⟩;simp (disch := omega) only [go_sem];refine (put_spec hG ws _ r _ _ hBK (by rw [List.length_append, List.length_map]; omega) h1).mono ?_;rintro _ H2 ⟨rfl, h2⟩;have g2 := h2.keep (upd_same _ _ _) n4.symm;simp (disch := omega) only [go_sem, g2, hll, hl1, hfl];refine (hp y (by rw [hl]; simp) _ r _ _ hBK (by rw [List.length_append, List.length_append, List.length_map]; omega) h2).mono ?_;rintro _ H4 ⟨rfl, h4⟩;simp (disch := omega) only [go_sem];refine DFin.refl ⟨rfl, ?_⟩;have := h4.drop hB4;rw [List.append_assoc, List.append_assoc] at this;exact this
set_option maxHeartbeats 4000000 in
theorem wchoice_spec (hG : GX G) (c : Ch) {n : Nat} (hc : rightC n c = true) (hp : ∀ y ∈ c.l, WrC Tryz.prog G 53 [.agg (dEx y)] (toksE y)) : WrC Tryz.prog G 92 [.agg (dCh c)] (toksC c) := by
 intro B r ts H hB hlen hw;have hfl := flat_len dEx_len c.l;unfold rightC at hc;refine dcalls_intro Tryz.func92 Tryz.call92 rfl (by kernel_rfl) ?_;simp (disch := omega) only [go_sem, DVal.cells];intro r3 hr3; dsimp only at hr3;obtain ⟨K, hK⟩ : ∃ K', K' = upd H r3 (some (.cells (dCh c) 71)) := ⟨_, rfl⟩;rw [← hK];have gr3 : K r3 = some (.cells (dCh c) 71) := by rw [hK]; exact upd_same _ _ _
 have hwK : WAt (upd B r3 (some (.cells (dCh c) 71))) r ts K := by rw [hK]; exact hw.frame hr3 _
 have n3 : r ≠ r3 := hw.ne hr3;have hB3 : B r3 = none := (hw.lo hr3).1;have hBK : upd B r3 (some (.cells (dCh c) 71)) r = none := by rw [upd_ne _ _ _ _ n3]; exact hB
 by_cases c1 : c.kind = 1
 ·rw [if_pos c1, decide_eq_true_eq] at hc;obtain ⟨x, hx⟩ := len1 hc;have hl0 := lx0 hx;have ht : toksC c = toksE x := by rw [toksC_eq, if_pos c1, hx]; rfl
  rw [ht] at hlen ⊢
  simp (disch := omega) only [go_sem, gr3, c1, hc, hl0, hfl];refine (hp x (by rw [hx]; simp) _ r _ _ hBK hlen hwK).mono ?_;rintro _ H4 ⟨rfl, h4⟩;simp (disch := omega) only [go_sem];exact DFin.refl ⟨rfl, h4.drop hB3⟩
 ·rw [if_neg c1] at hc;by_cases c2 : c.kind = 2
  ·rw [if_pos c2, decide_eq_true_eq] at hc;obtain ⟨x, y, hx⟩ := len2 hc;have hl0 := lx0 hx;have hl1 := lx1 hx;have ht : toksC c = partE x 2 ++ wTok wDots :: partE y 2 := by rw [toksC_eq, if_neg c1, if_pos c2, hx]; rfl
   rw [ht] at hlen ⊢
   simp (disch := omega) only [go_sem, gr3, c2];refine dwp_draws (by kernel_rfl) (.take 0 (.take 1 (.take 2 (.take 3 (.take 4 (.take 5 (.take 6 (.take 7 (.take 8 (.go 9 [] .done)))))))))) (by kernel_rfl) ?_;simp (disch := omega) only [go_sem, gr3, hc, hl0, hl1, hfl];refine (wbounds_spec hG x y (hp x (by rw [hx]; simp)) (hp y (by rw [hx]; simp)) _ r _ _ hBK hlen hwK).mono ?_;rintro _ H4 ⟨rfl, h4⟩;simp (disch := omega) only [go_sem];exact DFin.refl ⟨rfl, h4.drop hB3⟩
  ·have ht : toksC c = [wTok wOthers] := by rw [toksC_eq, if_neg c1, if_neg c2]
   rw [ht] at hlen ⊢
   simp (disch := omega) only [go_sem, gr3, c1, c2];intro q1 hq1; dsimp only at hq1;simp (disch := omega) only [go_sem];refine (put1 hG wOthers hq1 hBK hlen hwK).mono ?_;rintro _ H1 ⟨rfl, h1⟩;simp (disch := omega) only [go_sem];exact DFin.refl ⟨rfl, h1.drop hB3⟩
end
end Go.Dl

-- Chapter 3: the package's writer: lists, associations.
namespace Go.Dl
open Go Go.Proofs
set_option maxRecDepth 100000
theorem take_snoc {α : Type} {l : List α} {j : Nat} (h : j < l.length) : l.take (j + 1) = l.take j ++ [l[j]] := by rw [List.take_add_one, List.getElem?_eq_getElem h]; rfl
theorem sepT_take {α : Type} (g : α → List Tok) (s : List UInt8) (l : List α) (j : Nat) (h : j < l.length) : sepT s ((l.take (j + 1)).map g) = sepT s ((l.take j).map g) ++ ((if j = 0 then [] else [wTok s]) ++ g l[j]) := by
 rw [take_snoc h, List.map_append, List.map_singleton];by_cases c : j = 0
 ·subst c; simp [sepT]
 ·rw [sepT_snoc s _ _ (by cases l with
   | nil => simp at h
   | cons x l => cases j with
    | zero => exact absurd rfl c
    | succ j => simp), if_neg c]; rfl
theorem sepT_mono {α : Type} (g : α → List Tok) (s : List UInt8) (l : List α) : ∀ (n j : Nat), j + n ≤ l.length → (sepT s ((l.take j).map g)).length ≤ (sepT s ((l.take (j + n)).map g)).length
 | 0, j, _ => Nat.le_refl _
 | n + 1, j, h => by
  rw [← Nat.add_assoc, sepT_take g s l (j + n) (by omega), List.length_append];have := sepT_mono g s l n j (by omega);omega
theorem sepT_le {α : Type} (g : α → List Tok) (s : List UInt8) (l : List α) (j : Nat) (h : j ≤ l.length) : (sepT s ((l.take j).map g)).length ≤ (sepT s (l.map g)).length := by
 have := sepT_mono g s l (l.length - j) j (by omega);rw [Nat.add_sub_cancel' h, List.take_length] at this;exact this
section
variable {G : Nat → DVal}
set_option maxHeartbeats 4000000 in
theorem wlistC_spec (hG : GX G) (l : List Ch) (s : List UInt8) (hll : l.length ≤ 1000000000) (hp : ∀ c ∈ l, WrC Tryz.prog G 92 [.agg (dCh c)] (toksC c)) (B : DHeap) (r : Nat) (ts : List Tok) (H : DHeap) (hB : B r = none) (hlen : ts.length + (sepT s (l.map toksC)).length ≤ 1000000000) (hw : WAt B r ts H) :
  DCalls Tryz.prog G 91 [.optr r 0, dCl l, .str s, .func (.func 92) [.optr r 0] []] H (WQ B r (ts ++ sepT s (l.map toksC))) := by
 refine dcalls_intro Tryz.func91 Tryz.call91 rfl (by kernel_rfl) ?_;simp (disch := omega) only [go_sem, dCl];obtain ⟨I, hI⟩ : ∃ I : Nat → (Nat → DVal) → DHeap → Prop, ∀ j env heap, I j env heap ↔ (env 0 = .optr r 0 ∧ env 2 = .str s ∧ env 3 = .func (.func 92) [.optr r 0] [] ∧ env 10 = dCl l ∧ env 11 = dI l.length ∧ env 12 = dI j ∧ j ≤ l.length ∧ WAt B r (ts ++ sepT s ((l.take j).map toksC)) heap) := ⟨_, fun _ _ _ => Iff.rfl⟩;refine DLoop.run I (fun j => l.length - j) 0 ((hI _ _ _).2 ?_) ?_
 ·simp (disch := omega) only [go_sem];(repeat' apply And.intro) <;> (try first | rfl | assumption | omega);simpa [sepT] using hw
 ·intro j env heap hi;obtain ⟨e0, e2, e3, e10, e11, e12, hj, hwj⟩ := (hI _ _ _).1 hi;by_cases hlt : j < l.length
  ·have hlt' : (j : Int) < (l.length : Int) := by omega
   have hw1 : IntKind.i64.wrap ((j : Int) + 1) = ((j + 1 : Nat) : Int) := by rw [IntKind.wrap_i64]; omega
   have hget := flat_el dCh_len l j hlt;have hfl := flat_len dCh_len l;have htk := sepT_take toksC s l j hlt;have hle := sepT_le toksC s l (j + 1) hlt;have hpc := hp l[j] (List.getElem_mem hlt);obtain ⟨c, hce⟩ : ∃ c, c = l[j] := ⟨_, rfl⟩;rw [← hce] at hget htk hpc;rw [htk, List.length_append, List.length_append] at hle;simp (disch := omega) only [go_sem, e0, e2, e3, e10, e11, e12, hlt', dCl, hget, hfl, Int.toNat_natCast];intro r9 hr9; dsimp only at hr9;simp (disch := omega) only [go_sem, e0, e2, e3, e10, e11, e12];obtain ⟨K, hK⟩ : ∃ K', K' = upd heap r9 (some (.cells (dCh c) 71)) := ⟨_, rfl⟩;rw [← hK];have gr9 : K r9 = some (.cells (dCh c) 71) := by rw [hK]; exact upd_same _ _ _
   have hwK : WAt (upd B r9 (some (.cells (dCh c) 71))) r (ts ++ sepT s ((l.take j).map toksC)) K := by rw [hK]; exact hwj.frame hr9 _
   have n9 : r ≠ r9 := hwj.ne hr9;have hB9 : B r9 = none := (hwj.lo hr9).1;have hBK : upd B r9 (some (.cells (dCh c) 71)) r = none := by rw [upd_ne _ _ _ _ n9]; exact hB
   by_cases c0 : j = 0
   ·have c0' : ¬ (j : Int) > 0 := by omega
    have c0'' : ¬ (0 : Int) < (j : Int) := by omega
    rw [if_pos c0] at htk hle;simp (disch := omega) only [go_sem, e0, e2, e3, e10, e11, e12, gr9, c0', c0''];refine (hpc _ r _ _ hBK (by rw [List.length_append]; simp only [List.length_nil] at hle; omega) hwK).mono ?_;rintro _ H2 ⟨rfl, h2⟩;simp (disch := omega) only [go_sem, e0, e2, e3, e10, e11, e12];refine ⟨j + 1, _, GhostS.refl _, (hI _ _ _).2 ?_, by omega⟩;simp (disch := omega) only [go_sem, e0, e2, e3, e10, e11, e12, hw1];(repeat' apply And.intro) <;> (try first | rfl | assumption | omega);have := h2.drop hB9;rw [htk, List.nil_append, ← List.append_assoc];exact this
   ·have c0'' : (0 : Int) < (j : Int) := by omega
    rw [if_neg c0] at htk hle;simp only [List.length_singleton] at hle;simp (disch := omega) only [go_sem, e0, e2, e3, e10, e11, e12, gr9, c0''];intro q1 hq1; dsimp only at hq1;simp (disch := omega) only [go_sem, e0, e2, e3, e10, e11, e12];refine (put1 hG s hq1 hBK (by rw [List.length_append]; omega) hwK).mono ?_;rintro _ H1 ⟨rfl, h1⟩;have g1 := h1.keep (upd_same _ _ _) n9.symm;simp (disch := omega) only [go_sem, e0, e2, e3, e10, e11, e12, g1];refine (hpc _ r _ _ hBK (by rw [List.length_append, List.length_append, List.length_singleton]; omega) h1).mono ?_;rintro _ H2 ⟨rfl, h2⟩;simp (disch := omega) only [go_sem, e0, e2, e3, e10, e11, e12];refine ⟨j + 1, _, GhostS.refl _, (hI _ _ _).2 ?_, by omega⟩;simp (disch := omega) only [go_sem, e0, e2, e3, e10, e11, e12, hw1];(repeat' apply And.intro) <;> (try first | rfl | assumption | omega);have := h2.drop hB9;rw [htk, ← List.append_assoc, ← List.append_assoc];exact this
  ·have : j = l.length := by omega
   subst this;have hlt' : ¬ (l.length : Int) < (l.length : Int) := by omega
   rw [List.take_length] at hwj;simp (disch := omega) only [go_sem, e0, e2, e3, e10, e11, e12, hlt'];exact DFin.refl ⟨rfl, hwj⟩
set_option maxHeartbeats 4000000 in
theorem wlistA_spec (hG : GX G) (l : List As) (s : List UInt8) (hll : l.length ≤ 1000000000) (hp : ∀ c ∈ l, WrC Tryz.prog G 89 [.agg (dAs c)] (toksA c)) (B : DHeap) (r : Nat) (ts : List Tok) (H : DHeap) (hB : B r = none) (hlen : ts.length + (sepT s (l.map toksA)).length ≤ 1000000000) (hw : WAt B r ts H) :
  DCalls Tryz.prog G 88 [.optr r 0, dAl l, .str s, .func (.func 89) [.optr r 0] []] H (WQ B r (ts ++ sepT s (l.map toksA))) := by
 refine dcalls_intro Tryz.func88 Tryz.call88 rfl (by kernel_rfl) ?_;simp (disch := omega) only [go_sem, dAl];obtain ⟨I, hI⟩ : ∃ I : Nat → (Nat → DVal) → DHeap → Prop, ∀ j env heap, I j env heap ↔ (env 0 = .optr r 0 ∧ env 2 = .str s ∧ env 3 = .func (.func 89) [.optr r 0] [] ∧ env 10 = dAl l ∧ env 11 = dI l.length ∧ env 12 = dI j ∧ j ≤ l.length ∧ WAt B r (ts ++ sepT s ((l.take j).map toksA)) heap) := ⟨_, fun _ _ _ => Iff.rfl⟩;refine DLoop.run I (fun j => l.length - j) 0 ((hI _ _ _).2 ?_) ?_
 ·simp (disch := omega) only [go_sem];(repeat' apply And.intro) <;> (try first | rfl | assumption | omega);simpa [sepT] using hw
 ·intro j env heap hi;obtain ⟨e0, e2, e3, e10, e11, e12, hj, hwj⟩ := (hI _ _ _).1 hi;by_cases hlt : j < l.length
  ·have hlt' : (j : Int) < (l.length : Int) := by omega
   have hw1 : IntKind.i64.wrap ((j : Int) + 1) = ((j + 1 : Nat) : Int) := by rw [IntKind.wrap_i64]; omega
   have hget := flat_el dAs_len l j hlt;have hfl := flat_len dAs_len l;have htk := sepT_take toksA s l j hlt;have hle := sepT_le toksA s l (j + 1) hlt;have hpc := hp l[j] (List.getElem_mem hlt);obtain ⟨c, hce⟩ : ∃ c, c = l[j] := ⟨_, rfl⟩;rw [← hce] at hget htk hpc;rw [htk, List.length_append, List.length_append] at hle;simp (disch := omega) only [go_sem, e0, e2, e3, e10, e11, e12, hlt', dAl, hget, hfl, Int.toNat_natCast];intro r9 hr9; dsimp only at hr9;simp (disch := omega) only [go_sem, e0, e2, e3, e10, e11, e12];obtain ⟨K, hK⟩ : ∃ K', K' = upd heap r9 (some (.cells (dAs c) 47)) := ⟨_, rfl⟩;rw [← hK];have gr9 : K r9 = some (.cells (dAs c) 47) := by rw [hK]; exact upd_same _ _ _
   have hwK : WAt (upd B r9 (some (.cells (dAs c) 47))) r (ts ++ sepT s ((l.take j).map toksA)) K := by rw [hK]; exact hwj.frame hr9 _
   have n9 : r ≠ r9 := hwj.ne hr9;have hB9 : B r9 = none := (hwj.lo hr9).1;have hBK : upd B r9 (some (.cells (dAs c) 47)) r = none := by rw [upd_ne _ _ _ _ n9]; exact hB
   by_cases c0 : j = 0
   ·have c0' : ¬ (j : Int) > 0 := by omega
    have c0'' : ¬ (0 : Int) < (j : Int) := by omega
    rw [if_pos c0] at htk hle;simp (disch := omega) only [go_sem, e0, e2, e3, e10, e11, e12, gr9, c0', c0''];refine (hpc _ r _ _ hBK (by rw [List.length_append]; simp only [List.length_nil] at hle; omega) hwK).mono ?_;rintro _ H2 ⟨rfl, h2⟩;simp (disch := omega) only [go_sem, e0, e2, e3, e10, e11, e12];refine ⟨j + 1, _, GhostS.refl _, (hI _ _ _).2 ?_, by omega⟩;simp (disch := omega) only [go_sem, e0, e2, e3, e10, e11, e12, hw1];(repeat' apply And.intro) <;> (try first | rfl | assumption | omega);have := h2.drop hB9;rw [htk, List.nil_append, ← List.append_assoc];exact this
   ·have c0'' : (0 : Int) < (j : Int) := by omega
    rw [if_neg c0] at htk hle;simp only [List.length_singleton] at hle;simp (disch := omega) only [go_sem, e0, e2, e3, e10, e11, e12, gr9, c0''];intro q1 hq1; dsimp only at hq1;simp (disch := omega) only [go_sem, e0, e2, e3, e10, e11, e12];refine (put1 hG s hq1 hBK (by rw [List.length_append]; omega) hwK).mono ?_;rintro _ H1 ⟨rfl, h1⟩;have g1 := h1.keep (upd_same _ _ _) n9.symm;simp (disch := omega) only [go_sem, e0, e2, e3, e10, e11, e12, g1];refine (hpc _ r _ _ hBK (by rw [List.length_append, List.length_append, List.length_singleton]; omega) h1).mono ?_;rintro _ H2 ⟨rfl, h2⟩;simp (disch := omega) only [go_sem, e0, e2, e3, e10, e11, e12];refine ⟨j + 1, _, GhostS.refl _, (hI _ _ _).2 ?_, by omega⟩;simp (disch := omega) only [go_sem, e0, e2, e3, e10, e11, e12, hw1];(repeat' apply And.intro) <;> (try first | rfl | assumption | omega);have := h2.drop hB9;rw [htk, ← List.append_assoc, ← List.append_assoc];exact this
  ·have : j = l.length := by omega
   subst this;have hlt' : ¬ (l.length : Int) < (l.length : Int) := by omega
   rw [List.take_length] at hwj;simp (disch := omega) only [go_sem, e0, e2, e3, e10, e11, e12, hlt'];exact DFin.refl ⟨rfl, hwj⟩
end
end Go.Dl

-- Chapter 3: the package's writer: associations; all expressions.
namespace Go.Dl
open Go Go.Proofs
set_option maxRecDepth 100000
section
variable {G : Nat → DVal}
set_option maxHeartbeats 4000000 in
theorem wassoc_spec (hG : GX G) (a : As) (hc : a.c = [] ∨ (a.c.length ≤ 1000000000 ∧ ∃ n, ∀ c ∈ a.c, rightC n c = true)) (hp : ∀ y ∈ partsA a, WrC Tryz.prog G 53 [.agg (dEx y)] (toksE y)) : WrC Tryz.prog G 89 [.agg (dAs a)] (toksA a) := by
 intro B r ts H hB hlen hw;have he := hp a.e (mem_partsA_e a);have hae : ((dAs a).drop 1).take 9 = dEx a.e := by rw [dAs_eq, List.drop_succ_cons, List.drop_zero, List.take_of_length_le (by rw [dEx_len]; omega)]
 refine dcalls_intro Tryz.func89 Tryz.call89 rfl (by kernel_rfl) ?_;simp (disch := omega) only [go_sem, DVal.cells];intro r3 hr3; dsimp only at hr3;obtain ⟨K, hK⟩ : ∃ K', K' = upd H r3 (some (.cells (dAs a) 47)) := ⟨_, rfl⟩;rw [← hK];have gr3 : K r3 = some (.cells (dAs a) 47) := by rw [hK]; exact upd_same _ _ _
 have hwK : WAt (upd B r3 (some (.cells (dAs a) 47))) r ts K := by rw [hK]; exact hw.frame hr3 _
 have n3 : r ≠ r3 := hw.ne hr3;have hB3 : B r3 = none := (hw.lo hr3).1;have hBK : upd B r3 (some (.cells (dAs a) 47)) r = none := by rw [upd_ne _ _ _ _ n3]; exact hB
 by_cases c0 : a.c = []
 ·have ht : toksA a = toksE a.e := by rw [toksA_eq, c0]; rfl
  have hll : a.c.length = 0 := by rw [c0]; rfl
  have c0' : ¬ (0 : Int) < ((0 : Nat) : Int) := by omega
  rw [ht] at hlen ⊢
  simp (disch := omega) only [go_sem, gr3, hll, c0', hae];refine (he _ r _ _ hBK hlen hwK).mono ?_;rintro _ H1 ⟨rfl, h1⟩;simp (disch := omega) only [go_sem];exact DFin.refl ⟨rfl, h1.drop hB3⟩
 ·obtain ⟨hcl, n, hcr⟩ := hc.resolve_left c0;have hlp : 0 < a.c.length := List.length_pos_iff.2 c0;have hlp' : (0 : Int) < (a.c.length : Int) := by omega
  have ht : toksA a = sepT wBar (a.c.map toksC) ++ wTok wArrow :: toksE a.e := by
   rw [toksA_eq, if_neg];simpa using c0
  rw [ht] at hlen ⊢
  rw [List.length_append, List.length_cons] at hlen;simp (disch := omega) only [go_sem, gr3, hlp'];refine (wlistC_spec hG a.c wBar hcl (fun c hc => wchoice_spec hG c (hcr c hc) fun y hy => hp y (mem_partsA_c hc hy)) _ r _ _ hBK (by omega) hwK).mono ?_;rintro _ H1 ⟨rfl, h1⟩;simp (disch := omega) only [go_sem];intro q1 hq1; dsimp only at hq1;simp (disch := omega) only [go_sem];refine (put1 hG wArrow hq1 hBK (by rw [List.length_append]; omega) h1).mono ?_;rintro _ H2 ⟨rfl, h2⟩;have g2 := h2.keep (upd_same _ _ _) n3.symm;simp (disch := omega) only [go_sem, g2, hae];refine (he _ r _ _ hBK (by rw [List.length_append, List.length_append, List.length_singleton]; omega) h2).mono ?_;rintro _ H3 ⟨rfl, h3⟩;simp (disch := omega) only [go_sem];refine DFin.refl ⟨rfl, ?_⟩;have := h3.drop hB3;rw [List.append_assoc, List.append_assoc] at this;exact this
theorem simple_right {a : As} (h : (a.c.isEmpty || simpleCs a.c) = true) : a.c = [] ∨ (a.c.length ≤ 1000000000 ∧ ∃ n, ∀ c ∈ a.c, rightC n c = true) := by
 cases hc : a.c with
 | nil => exact .inl rfl
 | cons c r =>
  rw [hc] at h
  cases r with
  | nil =>
   simp only [simpleCs, List.isEmpty_cons, Bool.false_or, Bool.and_eq_true, decide_eq_true_eq] at h
   refine .inr ⟨by simp, 1, fun d hd => ?_⟩
   rw [List.mem_singleton] at hd
   subst hd
   rw [rightC, if_pos h.1, decide_eq_true_eq]
   match hl : d.l with
   | [x] => rfl
   | [] => rw [hl] at h; cases h.2
   | _ :: _ :: _ => rw [hl] at h; cases h.2
  | cons d r => simp [simpleCs] at h
theorem right_right {a : As} (h : (a.c.isEmpty || rightCs a.c) = true) : a.c = [] ∨ (a.c.length ≤ 1000000000 ∧ ∃ n, ∀ c ∈ a.c, rightC n c = true) := by
 cases hc : a.c with
 | nil => exact .inl rfl
 | cons c r =>
  rw [hc] at h;simp only [List.isEmpty_cons, Bool.false_or, rightCs, Bool.and_eq_true, decide_eq_true_eq, List.all_eq_true] at h;exact .inr ⟨by omega, _, h.2⟩
def ifT (x y z : Ex) : Nat → List Tok
 | 0 => []
 | 1 => wTok wOpen :: wTok wIf :: toksE x
 | 2 => wTok wOpen :: wTok wIf :: (toksE x ++ wTok wThen :: toksE y)
 | _ => wTok wOpen :: wTok wIf :: (toksE x ++ wTok wThen :: (toksE y ++ wTok wElse :: toksE z))
set_option maxHeartbeats 8000000 in
theorem wexpr_step (hG : GX G) (e : Ex) (hf : fieldsE e = true) (ih : ∀ x ∈ parts e, WrC Tryz.prog G 53 [.agg (dEx x)] (toksE x)) : WrC Tryz.prog G 53 [.agg (dEx e)] (toksE e) := by
 intro B r ts H hB hlen hw;have hfl := flat_len dEx_len e.l;refine dcalls_intro Tryz.func53 Tryz.call53 rfl (by kernel_rfl) ?_;simp (disch := omega) only [go_sem, DVal.cells];intro r3 hr3; dsimp only at hr3;obtain ⟨K, hK⟩ : ∃ K', K' = upd H r3 (some (.cells (dEx e) 27)) := ⟨_, rfl⟩;rw [← hK];have gr3 : K r3 = some (.cells (dEx e) 27) := by rw [hK]; exact upd_same _ _ _
 have hwK : WAt (upd B r3 (some (.cells (dEx e) 27))) r ts K := by rw [hK]; exact hw.frame hr3 _
 have n3 : r ≠ r3 := hw.ne hr3;have hB3 : B r3 = none := (hw.lo hr3).1;have hBK : upd B r3 (some (.cells (dEx e) 27)) r = none := by rw [upd_ne _ _ _ _ n3]; exact hB
 simp (disch := omega) only [go_sem, gr3];refine (namedE_spec G _ e).mono ?_;rintro _ K1 ⟨rfl, rfl⟩;by_cases hk : e.kind = 1
 ·have hnm : namedE e = false := by cases h : namedE e with | false => rfl | true => exact (nm_not (by omega) h).elim
  rw [toks1 hk] at hlen ⊢
  rw [hnm];simp (disch := omega) only [go_sem, gr3, hk];refine dwp_draws (by kernel_rfl) (.take 0 (.take 1 (.take 2 (.take 3 (.take 4 (.take 5 (.take 6 (.take 7 (.go 8 [4] (.go 9 [] (.take 10 (.take 11 (.go 12 [] .done))))))))))))) (by kernel_rfl) ?_;obtain ⟨v, hv⟩ := hwK;have gr := hv.keep (upd_same _ _ _);simp (disch := omega) only [go_sem, gr3, gr];intro r6 hr6; dsimp only at hr6;have n6 : r ≠ r6 := none_ne hr6 gr;have m6 := n6.symm;have hv6 := hv.new hr6 (some (.cells (dTok (inTok e.n)) 52));simp (disch := omega) only [go_sem, gr, n6, m6];refine OwnJ.append (m := 1) hv6 rfl (by rw [List.length_singleton] at hlen; omega) fun v2 H6 hv2 => ?_;have g6 := hv2.keep (upd_same _ _ _);obtain ⟨j1, j2⟩ := hv2.cell1;simp (disch := omega) only [go_sem, g6, j1, j2];have h7 : WAt (upd B r3 (some (.cells (dEx e) 27))) r (ts ++ [inTok e.n]) (upd H6 r (some (.cells [v2] 83))) := by
   refine ⟨v2, ?_⟩;have hv3 := hv2.at (upd_same _ _ _) (some (.cells [v2] 83));rw [upd_upd] at hv3;rw [dToks_snoc, List.length_append, List.length_singleton];exact hv3
  exact DFin.refl ⟨rfl, h7.drop hB3⟩
 have z1 := hk; clear hk;by_cases hk : e.kind = 2
 ·have hnm : namedE e = false := by cases h : namedE e with | false => rfl | true => exact (nm_not (by omega) h).elim
  rw [toks2 hk] at hlen ⊢
  rw [hnm];simp (disch := omega) only [go_sem, gr3, hk];intro q1 hq1; dsimp only at hq1;simp (disch := omega) only [go_sem, hk];refine (put1 hG wNull hq1 hBK (by (try simp only [List.length_append, List.length_cons, List.length_nil, List.length_map]); omega) hwK).mono ?_;rintro _ H1 ⟨rfl, h1⟩;have g1 := h1.keep (upd_same _ _ _) n3.symm;simp (disch := omega) only [go_sem];refine DFin.refl ⟨rfl, ?_⟩;have := h1.drop hB3
  (try simp only [List.append_assoc, List.cons_append, List.nil_append] at this ⊢)
  exact this
 have z2 := hk; clear hk;by_cases hk : e.kind = 3
 ·have hnm : namedE e = true := nm_of (by omega);rw [toks3 hk] at hlen ⊢
  rw [hnm];simp (disch := omega) only [go_sem, gr3, hk];refine (wname_spec G e.s _ r _ _ hBK hlen hwK).mono ?_;rintro _ H1 ⟨rfl, h1⟩;simp (disch := omega) only [go_sem];refine DFin.refl ⟨rfl, ?_⟩;have := h1.drop hB3
  (try simp only [List.append_assoc, List.cons_append, List.nil_append] at this ⊢)
  exact this
 have z3 := hk; clear hk;by_cases hk : e.kind = 4
 ·obtain ⟨⟨x, hx, _⟩, _⟩ := ff46 (.inl hk) hf;have ht : toksE e = toksE x ++ [wTok wDot, nmTok e.s] := by rw [toks4 hk]; unfold tE; rw [hx]; rfl
  rw [ht, List.length_append] at hlen;rw [ht];simp only [List.length_cons, List.length_nil] at hlen;have hll : e.l.length = 1 := by rw [hx]; rfl
  have hfx := lx0 hx;have hnm : namedE e = true := nm_of (by omega);rw [hnm];simp (disch := omega) only [go_sem, gr3, hk, hll, hfl, hfx];refine (ih x (mem_parts_l (by rw [hx]; simp)) _ r _ _ hBK (by omega) hwK).mono ?_;rintro _ H1 ⟨rfl, h1⟩;have g1 := h1.keep (upd_same _ _ _) n3.symm;simp (disch := omega) only [go_sem, g1, hk];intro q1 hq1; dsimp only at hq1;simp (disch := omega) only [go_sem, hk];refine (put1 hG wDot hq1 hBK (by (try simp only [List.length_append, List.length_cons, List.length_nil, List.length_map]); omega) h1).mono ?_;rintro _ H2 ⟨rfl, h2⟩;have g2 := h2.keep (upd_same _ _ _) n3.symm;simp (disch := omega) only [go_sem, g2];refine (wname_spec G e.s _ r _ _ hBK (by (try simp only [List.length_append, List.length_cons, List.length_nil, List.length_map]); omega) h2).mono ?_;rintro _ H3 ⟨rfl, h3⟩;simp (disch := omega) only [go_sem];refine DFin.refl ⟨rfl, ?_⟩;have := h3.drop hB3
  (try simp only [List.append_assoc, List.cons_append, List.nil_append] at this ⊢)
  exact this
 have z4 := hk; clear hk;by_cases hk : e.kind = 5
 ·obtain ⟨⟨x, hx, _⟩, _⟩ := ff5 hk hf;have ht : toksE e = toksE x ++ [wTok wDot, wTok wAll] := by rw [toks5 hk]; unfold tE; rw [hx]; rfl
  rw [ht, List.length_append] at hlen;rw [ht];simp only [List.length_cons, List.length_nil] at hlen;have hll : e.l.length = 1 := by rw [hx]; rfl
  have hfx := lx0 hx;have hnm : namedE e = true := nm_of (by omega);rw [hnm];simp (disch := omega) only [go_sem, gr3, hk, hll, hfl, hfx];refine (ih x (mem_parts_l (by rw [hx]; simp)) _ r _ _ hBK (by omega) hwK).mono ?_;rintro _ H1 ⟨rfl, h1⟩;have g1 := h1.keep (upd_same _ _ _) n3.symm;simp (disch := omega) only [go_sem, g1, hk];intro q1 hq1; dsimp only at hq1;simp (disch := omega) only [go_sem];refine (put2 hG wDot wAll hq1 hBK (by (try simp only [List.length_append, List.length_cons, List.length_nil, List.length_map]); omega) h1).mono ?_;rintro _ H2 ⟨rfl, h2⟩;simp (disch := omega) only [go_sem];refine DFin.refl ⟨rfl, ?_⟩;have := h2.drop hB3
  (try simp only [List.append_assoc, List.cons_append, List.nil_append] at this ⊢)
  exact this
 have z5 := hk; clear hk;by_cases hk : e.kind = 6
 ·obtain ⟨⟨x, hx, _⟩, _⟩ := ff46 (.inr hk) hf;have ht : toksE e = toksE x ++ [wTok wTick, nmTok e.s] := by rw [toks6 hk]; unfold tE; rw [hx]; rfl
  rw [ht, List.length_append] at hlen;rw [ht];simp only [List.length_cons, List.length_nil] at hlen;have hll : e.l.length = 1 := by rw [hx]; rfl
  have hfx := lx0 hx;have hnm : namedE e = true := nm_of (by omega);rw [hnm];simp (disch := omega) only [go_sem, gr3, hk, hll, hfl, hfx];refine (ih x (mem_parts_l (by rw [hx]; simp)) _ r _ _ hBK (by omega) hwK).mono ?_;rintro _ H1 ⟨rfl, h1⟩;have g1 := h1.keep (upd_same _ _ _) n3.symm;simp (disch := omega) only [go_sem, g1, hk];intro q1 hq1; dsimp only at hq1;simp (disch := omega) only [go_sem, hk];refine (put1 hG wTick hq1 hBK (by (try simp only [List.length_append, List.length_cons, List.length_nil, List.length_map]); omega) h1).mono ?_;rintro _ H2 ⟨rfl, h2⟩;have g2 := h2.keep (upd_same _ _ _) n3.symm;simp (disch := omega) only [go_sem, g2];refine (wname_spec G e.s _ r _ _ hBK (by (try simp only [List.length_append, List.length_cons, List.length_nil, List.length_map]); omega) h2).mono ?_;rintro _ H3 ⟨rfl, h3⟩;simp (disch := omega) only [go_sem];refine DFin.refl ⟨rfl, ?_⟩;have := h3.drop hB3
  (try simp only [List.append_assoc, List.cons_append, List.nil_append] at this ⊢)
  exact this
 have z6 := hk; clear hk;by_cases hk : e.kind = 7
 ·obtain ⟨⟨x, hx, _⟩, ha, _⟩ := ff7 hk hf;have ht : toksE e = toksE x ++ wTok wOpen :: (taE e ++ [wTok wShut]) := by rw [toks7 hk]; unfold tE; rw [hx]; rfl
  rw [ht, List.length_append, List.length_cons, List.length_append] at hlen;rw [ht];simp only [List.length_cons, List.length_nil, taE] at hlen;unfold taE;have hll : e.l.length = 1 := by rw [hx]; rfl
  rw [argsOk, Bool.and_eq_true, Bool.and_eq_true, Bool.and_eq_true, decide_eq_true_eq, decide_eq_true_eq, List.all_eq_true] at ha;have hfx := lx0 hx;have hnm : namedE e = true := nm_of (by omega);rw [hnm];simp (disch := omega) only [go_sem, gr3, hk, hll, hfl, hfx];refine (ih x (mem_parts_l (by rw [hx]; simp)) _ r _ _ hBK (by omega) hwK).mono ?_;rintro _ H1 ⟨rfl, h1⟩;have g1 := h1.keep (upd_same _ _ _) n3.symm;simp (disch := omega) only [go_sem, g1, hk];intro q1 hq1; dsimp only at hq1;simp (disch := omega) only [go_sem, hk];refine (put1 hG wOpen hq1 hBK (by (try simp only [List.length_append, List.length_cons, List.length_nil, List.length_map]); omega) h1).mono ?_;rintro _ H2 ⟨rfl, h2⟩;have g2 := h2.keep (upd_same _ _ _) n3.symm;simp (disch := omega) only [go_sem, g2];refine (wlistA_spec hG e.a wComma (by omega) (fun a hma => wassoc_spec hG a (simple_right (ha.2 a hma)) fun y hy => ih y (mem_parts_a hma hy)) _ r _ _ hBK (by (try simp only [List.length_append, List.length_cons, List.length_nil, List.length_map]); omega) h2).mono ?_;rintro _ H3 ⟨rfl, h3⟩;simp (disch := omega) only [go_sem];intro q2 hq2; dsimp only at hq2;simp (disch := omega) only [go_sem, hk];refine (put1 hG wShut hq2 hBK (by (try simp only [List.length_append, List.length_cons, List.length_nil, List.length_map]); omega) h3).mono ?_;rintro _ H4 ⟨rfl, h4⟩;have g4 := h4.keep (upd_same _ _ _) n3.symm;simp (disch := omega) only [go_sem];refine DFin.refl ⟨rfl, ?_⟩;have := h4.drop hB3
  (try simp only [List.append_assoc, List.cons_append, List.nil_append] at this ⊢)
  exact this
 have z7 := hk; clear hk;by_cases hk : e.kind = 8
 ·obtain ⟨⟨x, y, hx, _⟩, _⟩ := ff8 hk hf;have ht : toksE e = toksE x ++ wTok wTick :: parT (!bareK y.kind) (toksE y) := by rw [toks8 hk]; unfold tE; rw [hx]; rfl
  rw [ht, List.length_append, List.length_cons] at hlen;rw [ht];have hll : e.l.length = 2 := by rw [hx]; rfl
  have hl1 := lx1 hx;have hy0 : (e.l.flatMap dEx)[9]? = some (.int .u8 y.kind) := by
   rw [hx, List.flatMap_cons, List.flatMap_cons, dEx_eq x, dEx_eq y]; rfl
  have hyl := level_ge y;have hfx := lx0 hx;have hnm : namedE e = true := nm_of (by omega);rw [hnm];simp (disch := omega) only [go_sem, gr3, hk, hll, hfl, hfx];refine (ih x (mem_parts_l (by rw [hx]; simp)) _ r _ _ hBK (by omega) hwK).mono ?_;rintro _ H1 ⟨rfl, h1⟩;have g1 := h1.keep (upd_same _ _ _) n3.symm;simp (disch := omega) only [go_sem, g1, hk];by_cases b9 : y.kind = 9
  ·have hb : parT (!bareK y.kind) (toksE y) = partE y 0 := by rw [b9, partE, decide_eq_false (by omega)]; rfl
   rw [hb] at hlen ⊢
   simp (disch := omega) only [go_sem, g1, hll, hfl, hy0, b9];intro q1 hq1; dsimp only at hq1;simp (disch := omega) only [go_sem, hk];refine (put1 hG wTick hq1 hBK (by (try simp only [List.length_append, List.length_cons, List.length_nil, List.length_map]); omega) h1).mono ?_;rintro _ H2 ⟨rfl, h2⟩;have g2 := h2.keep (upd_same _ _ _) n3.symm;simp (disch := omega) only [go_sem, g2, hll, hfl, hl1];refine (wpart_spec hG y 0 (ih y (mem_parts_l (by rw [hx]; simp))) _ r _ _ hBK (by (try simp only [List.length_append, List.length_cons, List.length_nil, List.length_map]); omega) h2).mono ?_;rintro _ H3 ⟨rfl, h3⟩;simp (disch := omega) only [go_sem];refine DFin.refl ⟨rfl, ?_⟩;have := h3.drop hB3
   (try simp only [List.append_assoc, List.cons_append, List.nil_append] at this ⊢)
   exact this
  ·by_cases b10 : y.kind = 10
   ·have hb : parT (!bareK y.kind) (toksE y) = partE y 0 := by rw [b10, partE, decide_eq_false (by omega)]; rfl
    rw [hb] at hlen ⊢
    simp (disch := omega) only [go_sem, g1, hll, hfl, hy0, b10];intro q1 hq1; dsimp only at hq1;simp (disch := omega) only [go_sem, hk];refine (put1 hG wTick hq1 hBK (by (try simp only [List.length_append, List.length_cons, List.length_nil, List.length_map]); omega) h1).mono ?_;rintro _ H2 ⟨rfl, h2⟩;have g2 := h2.keep (upd_same _ _ _) n3.symm;simp (disch := omega) only [go_sem, g2, hll, hfl, hl1];refine (wpart_spec hG y 0 (ih y (mem_parts_l (by rw [hx]; simp))) _ r _ _ hBK (by (try simp only [List.length_append, List.length_cons, List.length_nil, List.length_map]); omega) h2).mono ?_;rintro _ H3 ⟨rfl, h3⟩;simp (disch := omega) only [go_sem];refine DFin.refl ⟨rfl, ?_⟩;have := h3.drop hB3
    (try simp only [List.append_assoc, List.cons_append, List.nil_append] at this ⊢)
    exact this
   ·have hb : parT (!bareK y.kind) (toksE y) = partE y 6 := by rw [partE, decide_eq_true (by omega), bareK, decide_eq_false b9, decide_eq_false b10]; rfl
    rw [hb] at hlen ⊢
    simp (disch := omega) only [go_sem, g1, hll, hfl, hy0, b9, b10];intro q1 hq1; dsimp only at hq1;simp (disch := omega) only [go_sem, hk];refine (put1 hG wTick hq1 hBK (by (try simp only [List.length_append, List.length_cons, List.length_nil, List.length_map]); omega) h1).mono ?_;rintro _ H2 ⟨rfl, h2⟩;have g2 := h2.keep (upd_same _ _ _) n3.symm;simp (disch := omega) only [go_sem, g2, hll, hfl, hl1];refine (wpart_spec hG y 6 (ih y (mem_parts_l (by rw [hx]; simp))) _ r _ _ hBK (by (try simp only [List.length_append, List.length_cons, List.length_nil, List.length_map]); omega) h2).mono ?_;rintro _ H3 ⟨rfl, h3⟩;simp (disch := omega) only [go_sem];refine DFin.refl ⟨rfl, ?_⟩;have := h3.drop hB3
    (try simp only [List.append_assoc, List.cons_append, List.nil_append] at this ⊢)
    exact this
 have z8 := hk; clear hk;by_cases hk : e.kind = 9
 ·obtain ⟨hx, ha, _⟩ := ff9 hk hf;have ht : toksE e = wTok wOpen :: (taE e ++ [wTok wShut]) := toks9 hk;rw [ht, List.length_cons, List.length_append] at hlen;rw [ht];simp only [List.length_cons, List.length_nil, taE] at hlen;unfold taE;have hnm : namedE e = false := by cases h : namedE e with | false => rfl | true => exact (nm_not (by omega) h).elim
  rw [hnm];rw [assocsOk] at ha;simp only [Bool.and_eq_true, decide_eq_true_eq, Bool.not_eq_true'] at ha;simp (disch := omega) only [go_sem, gr3, hk];intro q1 hq1; dsimp only at hq1;simp (disch := omega) only [go_sem, hk];refine (put1 hG wOpen hq1 hBK (by (try simp only [List.length_append, List.length_cons, List.length_nil, List.length_map]); omega) hwK).mono ?_;rintro _ H2 ⟨rfl, h2⟩;have g2 := h2.keep (upd_same _ _ _) n3.symm;simp (disch := omega) only [go_sem, g2];refine (wlistA_spec hG e.a wComma (by omega) (fun a hma => wassoc_spec hG a (right_right (assocAll_mem ha.2 a hma)) fun y hy => ih y (mem_parts_a hma hy)) _ r _ _ hBK (by (try simp only [List.length_append, List.length_cons, List.length_nil, List.length_map]); omega) h2).mono ?_;rintro _ H3 ⟨rfl, h3⟩;simp (disch := omega) only [go_sem];intro q2 hq2; dsimp only at hq2;simp (disch := omega) only [go_sem, hk];refine (put1 hG wShut hq2 hBK (by (try simp only [List.length_append, List.length_cons, List.length_nil, List.length_map]); omega) h3).mono ?_;rintro _ H4 ⟨rfl, h4⟩;have g4 := h4.keep (upd_same _ _ _) n3.symm;simp (disch := omega) only [go_sem];refine DFin.refl ⟨rfl, ?_⟩;have := h4.drop hB3
  (try simp only [List.append_assoc, List.cons_append, List.nil_append] at this ⊢)
  exact this
 have z9 := hk; clear hk;by_cases hk : e.kind = 10
 ·obtain ⟨⟨x, y, z, hx⟩, _⟩ := ff10 hk hf;have ht : toksE e = ifT x y z 3 ++ [wTok wShut] := by rw [toks10 hk]; unfold tE; rw [hx]; simp [ifT]
  have hle3 : (ifT x y z 1).length ≤ (ifT x y z 3).length ∧ (ifT x y z 2).length ≤ (ifT x y z 3).length := by
   simp only [ifT, List.length_cons, List.length_append]; omega
  rw [ht, List.length_append, List.length_singleton] at hlen;rw [ht];have hll : e.l.length = 3 := by rw [hx]; rfl
  have hl0 := lx0 hx;have hl1 := lx1 hx;have hl2 := lx2 hx;have hnm : namedE e = false := by cases h : namedE e with | false => rfl | true => exact (nm_not (by omega) h).elim
  rw [hnm];simp (disch := omega) only [go_sem, gr3, hk];intro q0 hq0; dsimp only at hq0;obtain ⟨L, hL⟩ : ∃ K', K' = upd K1 q0 (some (.cells [.str [105, 102], .str [116, 104, 101, 110], .str [101, 108, 115, 101]] 9)) := ⟨_, rfl⟩;rw [← hL];have hwL : WAt (upd (upd B r3 (some (.cells (dEx e) 27))) q0 (some (.cells [.str [105, 102], .str [116, 104, 101, 110], .str [101, 108, 115, 101]] 9))) r ts L := by rw [hL]; exact hwK.frame hq0 _
  have n0 : r ≠ q0 := hwK.ne hq0;have hB0 := (hwK.lo hq0).1;have n30 : r3 ≠ q0 := none_ne hq0 gr3;obtain ⟨C, hC⟩ : ∃ C, C = upd (upd B r3 (some (.cells (dEx e) 27))) q0 (some (.cells [.str [105, 102], .str [116, 104, 101, 110], .str [101, 108, 115, 101]] 9)) := ⟨_, rfl⟩;rw [← hC] at hwL;have hCr : C r = none := by rw [hC, upd_ne _ _ _ _ n0]; exact hBK
  have c3 : C r3 = some (.cells (dEx e) 27) := by rw [hC]; exact keepU (upd_same _ _ _) n30
  have c0 : C q0 = some (.cells [.str [105, 102], .str [116, 104, 101, 110], .str [101, 108, 115, 101]] 9) := by rw [hC]; exact upd_same _ _ _
  simp (disch := omega) only [go_sem];obtain ⟨I, hI⟩ : ∃ I : Nat → (Nat → DVal) → DHeap → Prop, ∀ j env heap, I j env heap ↔ (env 0 = .optr r 0 ∧ env 3 = .optr r3 0 ∧ env 111 = .oslice 1 q0 0 3 3 ∧ env 112 = dI 3 ∧ env 113 = dI j ∧ j ≤ 3 ∧ WAt C r (ts ++ ifT x y z j) heap) := ⟨_, fun _ _ _ => Iff.rfl⟩;refine DLoop.run I (fun j => 3 - j) 0 ((hI _ _ _).2 ?_) ?_
  ·simp (disch := omega) only [go_sem];(repeat' apply And.intro) <;> (try first | rfl | assumption | omega);simpa [ifT] using hwL
  ·intro j env heap hi;obtain ⟨e0, e3, e111, e112, e113, hj, hwj⟩ := (hI _ _ _).1 hi;have g3 := hwj.keep c3 n3.symm;have g0 := hwj.keep c0 n0.symm;have hj' : j = 0 ∨ j = 1 ∨ j = 2 ∨ j = 3 := by omega
   have w1 : IntKind.i64.wrap (0 + 1) = 1 := by decide
   have w2 : IntKind.i64.wrap (1 + 1) = 2 := by decide
   have w3 : IntKind.i64.wrap (2 + 1) = 3 := by decide
   rcases hj' with rfl | rfl | rfl | rfl
   ·have z0 : ((0 : Nat) : Int) = 0 := rfl;simp (disch := omega) only [go_sem, e0, e3, e111, e112, e113, g0, z0];intro p1 hp1; dsimp only at hp1;simp (disch := omega) only [go_sem, e0, e3, e111, e112, e113];refine (put1 hG wOpen hp1 hCr (by simp only [ifT, List.append_nil]; omega) hwj).mono ?_;rintro _ H1 ⟨rfl, h1⟩;have f1 := h1.keep c3 n3.symm;simp (disch := omega) only [go_sem, e0, e3, e111, e112, e113, f1];intro p2 hp2; dsimp only at hp2;simp (disch := omega) only [go_sem, e0, e3, e111, e112, e113];refine (put1 hG wIf hp2 hCr (by simp only [ifT, List.append_nil, List.length_append, List.length_cons, List.length_nil] at hle3 hlen ⊢; omega) h1).mono ?_;rintro _ H2 ⟨rfl, h2⟩;have f2 := h2.keep c3 n3.symm;simp (disch := omega) only [go_sem, e0, e3, e111, e112, e113, f2, hll, hfl, hl0];refine (ih x (mem_parts_l (by rw [hx]; simp)) _ r _ _ hCr (by simp only [ifT, List.append_nil, List.length_append, List.length_cons, List.length_nil] at hle3 hlen ⊢; omega) h2).mono ?_;rintro _ H4 ⟨rfl, h4⟩;simp (disch := omega) only [go_sem, e0, e3, e111, e112, e113];refine ⟨1, _, GhostS.refl _, (hI _ _ _).2 ?_, by omega⟩;simp (disch := omega) only [go_sem, e0, e3, e111, e112, e113, w1];(repeat' apply And.intro) <;> (try first | rfl | assumption | omega);simpa [ifT] using h4
   ·have z0 : ((1 : Nat) : Int) = 1 := rfl;simp (disch := omega) only [go_sem, e0, e3, e111, e112, e113, g0, z0];intro p2 hp2; dsimp only at hp2;simp (disch := omega) only [go_sem, e0, e3, e111, e112, e113];refine (put1 hG wThen hp2 hCr (by simp only [ifT, List.append_nil, List.length_append, List.length_cons, List.length_nil] at hle3 hlen ⊢; omega) hwj).mono ?_;rintro _ H2 ⟨rfl, h2⟩;have f2 := h2.keep c3 n3.symm;simp (disch := omega) only [go_sem, e0, e3, e111, e112, e113, f2, hll, hfl, hl1];refine (ih y (mem_parts_l (by rw [hx]; simp)) _ r _ _ hCr (by simp only [ifT, List.append_nil, List.length_append, List.length_cons, List.length_nil] at hle3 hlen ⊢; omega) h2).mono ?_;rintro _ H4 ⟨rfl, h4⟩;simp (disch := omega) only [go_sem, e0, e3, e111, e112, e113];refine ⟨2, _, GhostS.refl _, (hI _ _ _).2 ?_, by omega⟩;simp (disch := omega) only [go_sem, e0, e3, e111, e112, e113, w2];(repeat' apply And.intro) <;> (try first | rfl | assumption | omega);simpa [ifT] using h4
   ·have z0 : ((2 : Nat) : Int) = 2 := rfl;simp (disch := omega) only [go_sem, e0, e3, e111, e112, e113, g0, z0];intro p2 hp2; dsimp only at hp2;simp (disch := omega) only [go_sem, e0, e3, e111, e112, e113];refine (put1 hG wElse hp2 hCr (by simp only [ifT, List.append_nil, List.length_append, List.length_cons, List.length_nil] at hle3 hlen ⊢; omega) hwj).mono ?_;rintro _ H2 ⟨rfl, h2⟩;have f2 := h2.keep c3 n3.symm;simp (disch := omega) only [go_sem, e0, e3, e111, e112, e113, f2, hll, hfl, hl2];refine (ih z (mem_parts_l (by rw [hx]; simp)) _ r _ _ hCr (by simp only [ifT, List.append_nil, List.length_append, List.length_cons, List.length_nil] at hle3 hlen ⊢; omega) h2).mono ?_;rintro _ H4 ⟨rfl, h4⟩;simp (disch := omega) only [go_sem, e0, e3, e111, e112, e113];refine ⟨3, _, GhostS.refl _, (hI _ _ _).2 ?_, by omega⟩;simp (disch := omega) only [go_sem, e0, e3, e111, e112, e113, w3];(repeat' apply And.intro) <;> (try first | rfl | assumption | omega);simpa [ifT] using h4
   ·have z0 : ((3 : Nat) : Int) = 3 := rfl;simp (disch := omega) only [go_sem, e0, e3, e111, e112, e113, g0, z0];intro p2 hp2; dsimp only at hp2;simp (disch := omega) only [go_sem, e0, e3, e111, e112, e113];refine (put1 hG wShut hp2 hCr (by simp only [List.length_append] at hlen ⊢; omega) hwj).mono ?_;rintro _ H2 ⟨rfl, h2⟩;simp (disch := omega) only [go_sem, e0];refine DFin.refl ⟨rfl, ?_⟩;rw [hC] at h2;have := (h2.drop hB0).drop hB3;rw [List.append_assoc] at this;exact this
 have z10 := hk; clear hk;by_cases hk : e.kind = 11
 ·obtain ⟨⟨x, hx⟩, ⟨o, ho, ho2⟩, _⟩ := ff11 hk hf;have ht : toksE e = (wordsN o).map wTok ++ partE x (leastM e) := by rw [toks11 hk, ho, Int.toNat_natCast]; unfold pE tE; rw [hx]; rfl
  rw [ht] at hlen ⊢
  have hnm : namedE e = false := by cases h : namedE e with | false => rfl | true => exact (nm_not (by omega) h).elim
  rw [hnm];simp (disch := omega) only [go_sem, gr3, hk];refine (wmona_spec hG e x o hx ho (by omega) (ih x (mem_parts_l (by rw [hx]; simp))) _ r _ _ hBK hlen hwK).mono ?_;rintro _ H1 ⟨rfl, h1⟩;simp (disch := omega) only [go_sem];exact DFin.refl ⟨rfl, h1.drop hB3⟩
 have z11 := hk; clear hk;by_cases hk : e.kind = 12
 ·obtain ⟨⟨x, y, hx⟩, ⟨o, ho, ho2⟩, _⟩ := ff12 hk hf;have ht : toksE e = partE x (leastL e) ++ ((wordsN o).map wTok ++ partE y (leastR e)) := by rw [toks12 hk, ho, Int.toNat_natCast]; unfold pE tE; rw [hx]; rfl
  rw [ht] at hlen ⊢
  have hnm : namedE e = false := by cases h : namedE e with | false => rfl | true => exact (nm_not (by omega) h).elim
  rw [hnm];simp (disch := omega) only [go_sem, gr3, hk];refine (wdyad_spec hG e x y o hx ho (by omega) (ih x (mem_parts_l (by rw [hx]; simp))) (ih y (mem_parts_l (by rw [hx]; simp))) _ r _ _ hBK hlen hwK).mono ?_;rintro _ H1 ⟨rfl, h1⟩;simp (disch := omega) only [go_sem];exact DFin.refl ⟨rfl, h1.drop hB3⟩
 have z12 := hk; clear hk;have hkd : e.kind = 13 ∨ e.kind = 14 := by
  by_cases h : e.kind = 13 ∨ e.kind = 14
  ·exact h
  ·exfalso;have : fieldsE e = false := by
    unfold fieldsE;rw [if_neg z1, if_neg z2, if_neg z3, if_neg (by omega), if_neg z5, if_neg z7, if_neg z8, if_neg z9, if_neg z10, if_neg z11, if_neg z12, if_neg h]
   rw [this] at hf; cases hf
 obtain ⟨hx', _⟩ := ff134 hkd hf;have hx : ∃ x, (∃ y z, e.l = [x, y, z]) ∨ ∃ y, e.l = [x, y] := by
  rcases hx' with ⟨x, y, z, hx⟩ | ⟨x, y, hx, _⟩
  ·exact ⟨x, .inl ⟨y, z, hx⟩⟩
  ·exact ⟨x, .inr ⟨y, hx⟩⟩
 clear hx';obtain ⟨x, hx⟩ := hx;have g0 : e.l.getD 0 ex0 = x ∧ 0 < e.l.length := by rcases hx with ⟨y, z, hx⟩ | ⟨y, hx⟩ <;> (rw [hx]; exact ⟨rfl, by simp⟩)
 have hp0 : pE e 0 2 = partE x 2 := by rw [pE_at g0.2, g0.1]
 have hihl : ∀ y ∈ e.l, WrC Tryz.prog G 53 [.agg (dEx y)] (toksE y) := fun y hy => ih y (mem_parts_l hy);have hnm : namedE e = false := by cases h : namedE e with | false => rfl | true => exact (nm_not (by omega) h).elim
 rw [hnm];by_cases hk : e.kind = 13
 ·have ht : toksE e = partE x 2 ++ ([wIn].map wTok ++ tailE e) := by rw [toks13 hk, hp0]; rfl
  rw [ht] at hlen ⊢
  simp (disch := omega) only [go_sem, gr3, hk];intro q1 hq1; dsimp only at hq1;simp (disch := omega) only [go_sem];refine DCalls.fzA q1 hq1 ?_;simp only [fzs, fz, if_neg (hwK.ne hq1), if_pos, fz_dEx];refine (winside_spec hG e x [wIn] hx hihl _ r _ _ hBK hlen hwK).mono ?_;rintro _ H1 ⟨rfl, h1⟩;simp (disch := omega) only [go_sem];exact DFin.refl ⟨rfl, h1.drop hB3⟩
 ·have hk14 : e.kind = 14 := by omega
  have ht : toksE e = partE x 2 ++ ([wNot, wIn].map wTok ++ tailE e) := by rw [toks14 hk14, hp0]; rfl
  rw [ht] at hlen ⊢
  simp (disch := omega) only [go_sem, gr3, hk14];intro q1 hq1; dsimp only at hq1;simp (disch := omega) only [go_sem];refine DCalls.fzA q1 hq1 ?_;simp only [fzs, fz, if_neg (hwK.ne hq1), if_pos, fz_dEx];refine (winside_spec hG e x [wNot, wIn] hx hihl _ r _ _ hBK hlen hwK).mono ?_;rintro _ H1 ⟨rfl, h1⟩;simp (disch := omega) only [go_sem];exact DFin.refl ⟨rfl, h1.drop hB3⟩
end
end Go.Dl

-- Chapter 3: expressions: the plain laws, part 15: how many tokens an expression has.
namespace Go.Dl
open Go
set_option maxRecDepth 10000
def wt (l : List Ex) : Nat := (l.map fun x => (toksE x).length + 7).sum
theorem wt_append (l m : List Ex) : wt (l ++ m) = wt l + wt m := by simp [wt]
theorem wt_cons (x : Ex) (l : List Ex) : wt (x :: l) = (toksE x).length + 7 + wt l := by simp [wt]
theorem wt_nil : wt [] = 0 := rfl
theorem partE_len (x : Ex) (lv : Int) : (partE x lv).length ≤ (toksE x).length + 2 := by
 rw [partE, parT_len]; split <;> omega
theorem toksC_len {n : Nat} {c : Ch} (h : rightC n c = true) : (toksC c).length + 1 ≤ wt c.l + if c.kind = 3 then 2 else 0 := by
 unfold rightC at h;by_cases c1 : c.kind = 1
 ·rw [if_pos c1, decide_eq_true_eq] at h;obtain ⟨x, hx⟩ := len1 h;rw [toksC_eq, if_pos c1, hx, wt_cons];show (toksE x).length + 1 ≤ _;omega
 ·rw [if_neg c1] at h;by_cases c2 : c.kind = 2
  ·rw [if_pos c2, decide_eq_true_eq] at h;obtain ⟨x, y, hx⟩ := len2 h;rw [toksC_eq, if_neg c1, if_pos c2, hx, wt_cons, wt_cons];show (partE x 2 ++ wTok wDots :: partE y 2).length + 1 ≤ _;have := partE_len x 2;have := partE_len y 2;rw [List.length_append, List.length_cons]; omega
  ·rw [if_neg c2] at h;simp only [Bool.and_eq_true, decide_eq_true_eq] at h;rw [toksC_eq, if_neg c1, if_neg c2, if_pos h.1.1];show 1 + 1 ≤ _;omega
theorem sumT_cons (t : List Tok) (ta : List (List Tok)) : sumT (t :: ta) = t.length + 1 + sumT ta := by simp [sumT]
theorem choices_len {n : Nat} (hn : n ≠ 1) : ∀ (l : List Ch), l.length ≤ n → (∀ c ∈ l, rightC n c = true) → sumT (l.map toksC) ≤ wt (l.flatMap Ch.l)
 | [], _, _ => Nat.zero_le _
 | c :: r, hl, h => by
  have ih := choices_len hn r (by rw [List.length_cons] at hl; omega) fun d hd => h d (by simp [hd]);have hc := h c (by simp);have h1 := toksC_len hc;rw [if_neg] at h1
  ·rw [List.map_cons, sumT_cons, List.flatMap_cons, wt_append]; omega
  ·intro c3;unfold rightC at hc;rw [if_neg (by omega), if_neg (by omega)] at hc;simp only [Bool.and_eq_true, decide_eq_true_eq, List.length_cons] at hc hl;omega
theorem right_len {l : List Ch} (h : rightCs l = true) : (sepT wBar (l.map toksC)).length ≤ wt (l.flatMap Ch.l) + 2 := by
 simp only [rightCs, Bool.and_eq_true, decide_eq_true_eq, List.all_eq_true] at h
 have h0 := sumT_len wBar (l.map toksC) (by intro e; rw [List.map_eq_nil_iff] at e; rw [e] at h; simp at h)
 by_cases hn : l.length = 1
 ·match l, hn with
  | [c], _ =>
   have h1 := toksC_len (h.2 c (by simp))
   have h2 : (if c.kind = 3 then 2 else 0) ≤ 2 := by split <;> omega
   rw [List.map_singleton, sumT_cons] at h0
   rw [List.map_singleton, List.flatMap_singleton]
   simp [sumT] at h0
   omega
 ·have := choices_len hn l (Nat.le_refl _) h.2
  omega
theorem simple_rights {l : List Ch} (h : simpleCs l = true) : rightCs l = true := by
 match l with
 | [c] =>
  simp only [simpleCs, Bool.and_eq_true, decide_eq_true_eq] at h
  simp only [rightCs, List.length_singleton, List.all_cons, List.all_nil, Bool.and_true, rightC, if_pos h.1]
  match hl : c.l with
  | [x] => rfl
  | [] => rw [hl] at h; cases h.2
  | _ :: _ :: _ => rw [hl] at h; cases h.2
 | [] => cases h
 | _ :: _ :: _ => cases h
theorem toksA_len {a : As} (h : (a.c.isEmpty || rightCs a.c) = true) : (toksA a).length + 1 ≤ wt (partsA a) := by
 rw [partsA, wt_append, wt_cons, wt_nil];by_cases c0 : a.c = []
 ·rw [toksA_eq, c0];show (toksE a.e).length + 1 ≤ _;omega
 ·have hr : rightCs a.c = true := by
   rw [Bool.or_eq_true] at h;rcases h with h | h
   ·exact absurd (List.isEmpty_iff.1 h) c0
   ·exact h
  have h1 := right_len hr;rw [toksA_eq, if_neg (by simpa using c0), List.length_append, List.length_cons];omega
theorem assocs_len : ∀ (l : List As), (∀ a ∈ l, (a.c.isEmpty || rightCs a.c) = true) → sumT (l.map toksA) ≤ wt (l.flatMap partsA)
 | [], _ => Nat.zero_le _
 | a :: r, h => by
  have ih := assocs_len r fun d hd => h d (by simp [hd]);have h1 := toksA_len (h a (by simp));rw [List.map_cons, sumT_cons, List.flatMap_cons, wt_append]; omega
theorem args_right {l : List As} (h : argsOk l = true) : ∀ a ∈ l, (a.c.isEmpty || rightCs a.c) = true := fun a ha => by
 rw [argsOk, Bool.and_eq_true, List.all_eq_true] at h;have := h.2 a ha;rw [Bool.or_eq_true] at this ⊢
 rcases this with h1 | h1
 ·exact .inl h1
 ·exact .inr (simple_rights h1)
theorem taE_len {l : List As} (h : ∀ a ∈ l, (a.c.isEmpty || rightCs a.c) = true) : (sepT wComma (l.map toksA)).length ≤ wt (l.flatMap partsA) := by
 have h1 := assocs_len l h;rw [sepT_len];unfold sumT at h1;unfold sepN; omega
theorem words_len (o : Nat) : (wordsN o).length ≤ 2 := by
 rw [wordsN, List.getD];by_cases h : o < 22
 ·have : ∀ i : Fin 22, ((wordsL[i.1]?).getD []).length ≤ 2 := by decide
  exact this ⟨o, h⟩
 ·rw [List.getElem?_eq_none (by have : wordsL.length = 22 := rfl; omega)]; decide
theorem toksE_len1 {e : Ex} (hf : fieldsE e = true) : (toksE e).length ≤ 10 + wt (parts e) := by
 have hpl : wt (parts e) = wt e.l + wt (e.a.flatMap partsA) := wt_append _ _;by_cases k1 : e.kind = 1
 ·rw [toks1 k1]; show 1 ≤ _; omega
 by_cases k2 : e.kind = 2
 ·rw [toks2 k2]; show 1 ≤ _; omega
 by_cases k3 : e.kind = 3
 ·rw [toks3 k3]; show 1 ≤ _; omega
 by_cases k4 : e.kind = 4
 ·obtain ⟨⟨x, hx, _⟩, _⟩ := ff46 (.inl k4) hf;rw [toks4 k4, hpl, hx, wt_cons]; unfold tE; rw [hx, List.length_append];show (toksE x).length + 2 ≤ _; omega
 by_cases k5 : e.kind = 5
 ·obtain ⟨⟨x, hx, _⟩, _⟩ := ff5 k5 hf;rw [toks5 k5, hpl, hx, wt_cons]; unfold tE; rw [hx, List.length_append];show (toksE x).length + 2 ≤ _; omega
 by_cases k6 : e.kind = 6
 ·obtain ⟨⟨x, hx, _⟩, _⟩ := ff46 (.inr k6) hf;rw [toks6 k6, hpl, hx, wt_cons]; unfold tE; rw [hx, List.length_append];show (toksE x).length + 2 ≤ _; omega
 by_cases k7 : e.kind = 7
 ·obtain ⟨⟨x, hx, _⟩, ha, _⟩ := ff7 k7 hf;have h1 := taE_len (args_right ha);rw [toks7 k7, hpl, hx, wt_cons]; unfold tE taE; rw [hx, List.length_append, List.length_cons, List.length_append];show (toksE x).length + (_ + 1 + 1) ≤ _; omega
 by_cases k8 : e.kind = 8
 ·obtain ⟨⟨x, y, hx, _⟩, _⟩ := ff8 k8 hf;rw [toks8 k8, hpl, hx, wt_cons, wt_cons]; unfold tE; rw [hx, List.length_append, List.length_cons, parT_len];show (toksE x).length + ((toksE y).length + _ + 1) ≤ _;split <;> omega
 by_cases k9 : e.kind = 9
 ·obtain ⟨hx, ha, _⟩ := ff9 k9 hf;rw [assocsOk, Bool.and_eq_true] at ha;have h1 := taE_len (fun a hm => assocAll_mem ha.2 a hm);rw [toks9 k9, hpl, List.length_cons, List.length_append]; unfold taE;show _ + 1 + 1 ≤ _; omega
 by_cases k10 : e.kind = 10
 ·obtain ⟨⟨x, y, z, hx⟩, _⟩ := ff10 k10 hf;rw [toks10 k10, hpl, hx, wt_cons, wt_cons, wt_cons]; unfold tE; rw [hx];simp only [List.length_append, List.length_cons];show (toksE x).length + ((toksE y).length + ((toksE z).length + _ + 1) + 1) + 1 + 1 ≤ _;simp only [List.length_nil]; omega
 by_cases k11 : e.kind = 11
 ·obtain ⟨⟨x, hx⟩, ⟨o, ho, _⟩, _⟩ := ff11 k11 hf;have := words_len e.oper.toNat;have := partE_len x (leastM e);have hp : pE e 0 (leastM e) = partE x (leastM e) := by unfold pE tE; rw [hx]; rfl
  rw [toks11 k11, hpl, hx, wt_cons, hp, List.length_append, List.length_map]; omega
 by_cases k12 : e.kind = 12
 ·obtain ⟨⟨x, y, hx⟩, _⟩ := ff12 k12 hf;have := words_len e.oper.toNat;have := partE_len x (leastL e);have := partE_len y (leastR e);have hp : pE e 0 (leastL e) = partE x (leastL e) := by unfold pE tE; rw [hx]; rfl
  have hq : pE e 1 (leastR e) = partE y (leastR e) := by unfold pE tE; rw [hx]; rfl
  rw [toks12 k12, hpl, hx, wt_cons, wt_cons, hp, hq, List.length_append, List.length_append, List.length_map]; omega
 by_cases h : e.kind = 13 ∨ e.kind = 14
 ·obtain ⟨hx', _⟩ := ff134 h hf;have hT : (pE e 0 2).length + (tailE e).length + 3 ≤ 10 + wt (parts e) := by
   rcases hx' with ⟨x, y, z, hx⟩ | ⟨x, y, hx, _⟩
   ·have := partE_len x 2;have := partE_len y 2;have := partE_len z 2;have hp : pE e 0 2 = partE x 2 := by unfold pE tE; rw [hx]; rfl
    have hq : tailE e = partE y 2 ++ wTok wDots :: partE z 2 := by unfold tailE pE tE; rw [hx]; rfl
    rw [hp, hq, hpl, hx, wt_cons, wt_cons, wt_cons, List.length_append, List.length_cons]; omega
   ·have := partE_len x 2;have hp : pE e 0 2 = partE x 2 := by unfold pE tE; rw [hx]; rfl
    have hq : tailE e = toksE y := by unfold tailE pE tE; rw [hx]; rfl
    rw [hp, hq, hpl, hx, wt_cons, wt_cons]; omega
  rcases h with k | k
  ·rw [toks13 k, List.length_append, List.length_cons]; omega
  ·rw [toks14 k, List.length_append, List.length_cons, List.length_cons]; omega
 exfalso;have : fieldsE e = false := by
  unfold fieldsE;rw [if_neg k1, if_neg k2, if_neg k3, if_neg (by omega), if_neg k5, if_neg k7, if_neg k8, if_neg k9, if_neg k10, if_neg k11, if_neg k12, if_neg h]
 rw [this] at hf; cases hf
theorem wt_le {l : List Ex} (h : ∀ x ∈ l, (toksE x).length + 7 ≤ 17 * sizeE x) : wt l ≤ 17 * sumE l := by
 induction l with
 | nil => exact Nat.zero_le _
 | cons x l ih =>
  have h1 := h x (by simp);have h2 := ih fun y hy => h y (by simp [hy]);rw [wt_cons, sumE, List.map_cons, List.sum_cons];unfold sumE at h2;omega
theorem toksE_len (e : Ex) : ∀ d, validE d e = true → (toksE e).length + 7 ≤ 17 * sizeE e := by
 refine Ex.ind (p := fun e => ∀ d, validE d e = true → (toksE e).length + 7 ≤ 17 * sizeE e) (fun e ih d hv => ?_) e;obtain ⟨hf, hp⟩ := valid_fields hv;have h1 := toksE_len1 hf;have h2 := wt_le fun x hx => ih x hx _ (hp x hx);rw [sizeE_sum e]; omega
theorem may_len {e : Ex} (h : mayE e = true) : (toksE e).length ≤ 5000 := by
 rw [mayE, Bool.and_eq_true, decide_eq_true_eq] at h;have := toksE_len e 1 h.1;omega
def tokensE (e : Ex) : List Tok × Int := if mayE e then (toksE e, 0) else ([], 2)
end Go.Dl

-- Chapter 3: the package's Tokens, ArgTokens, ChoiceTokens.
namespace Go.Dl
open Go Go.Proofs
set_option maxRecDepth 100000
section
variable {G : Nat → DVal}
theorem wexpr_all (hG : GX G) (e : Ex) : ∀ d, validE d e = true → WrC Tryz.prog G 53 [.agg (dEx e)] (toksE e) := by
 refine Ex.ind (p := fun e => ∀ d, validE d e = true → WrC Tryz.prog G 53 [.agg (dEx e)] (toksE e)) (fun e ih d hv => ?_) e;obtain ⟨hf, hp⟩ := valid_fields hv;exact wexpr_step hG e hf fun x hx => ih x hx _ (hp x hx)
theorem may_valid {e : Ex} (h : mayE e = true) : validE 1 e = true := by
 rw [mayE, Bool.and_eq_true] at h; exact h.1
theorem WAt.start {B : DHeap} {r : Nat} (hr : B r = none) : WAt B r [] (upd B r (some (.cells [.nilSlice] 83))) := ⟨_, .inl ⟨rfl, rfl, rfl, Sub.refl _⟩⟩
theorem WAt.cell {B H : DHeap} {r : Nat} {ts : List Tok} (h : WAt B r ts H) (hr : B r = none) : ∃ v, H r = some (.cells [v] 83) ∧ Seen H v B (dToks ts) := by
 obtain ⟨v, h⟩ := h;exact ⟨v, h.keep (upd_same _ _ _), Seen.own (h.less ((Sub.refl B).up hr _))⟩
set_option maxHeartbeats 4000000 in
theorem tokens_spec (hG : GX G) (H : DHeap) (e : Ex) (he : Fit e) : DCalls Tryz.prog G 11 [.agg (dEx e)] H (DRet (.tuple [dToks (tokensE e).1, dI (tokensE e).2]) H) := by
 rw [tokensE];refine dcalls_intro Tryz.func11 Tryz.call11 rfl (by kernel_rfl) ?_;simp (disch := omega) only [go_sem, DVal.cells];intro r1 hr1; dsimp only at hr1;obtain ⟨K, hK⟩ : ∃ K', K' = upd H r1 (some (.cells (dEx e) 27)) := ⟨_, rfl⟩;rw [← hK];have gr1 : K r1 = some (.cells (dEx e) 27) := by rw [hK]; exact upd_same _ _ _
 have hs : Sub H K := by rw [hK]; exact (Sub.refl H).new hr1 _
 simp (disch := omega) only [go_sem, gr1];refine (may_spec hG K e he).mono ?_;rintro _ K1 ⟨rfl, rfl⟩;cases hm : mayE e with
 | false =>
  simp (disch := omega) only [go_sem];exact Seen.fin hs (Seen.tuple (.cons (Seen.nil hs) (Seens.keep hs _))) ⟨rfl, rfl⟩
 | true =>
  have hlen := may_len hm;simp (disch := omega) only [go_sem];intro r2 hr2; dsimp only at hr2;have n12 : r1 ≠ r2 := none_ne hr2 gr1;have m12 := n12.symm;have hw := WAt.start hr2;have g1 : upd K1 r2 (some (.cells [.nilSlice] 83)) r1 = some (.cells (dEx e) 27) := keepU gr1 n12;simp (disch := omega) only [go_sem, g1];refine (wexpr_all hG e 1 (may_valid hm) K1 r2 [] _ hr2 (by simp; omega) hw).mono ?_;rintro _ H1 ⟨rfl, h1⟩;rw [List.nil_append] at h1;have hs1 : Sub K1 H1 := by
   obtain ⟨v, h1⟩ := h1;exact (((Sub.refl K1).up hr2 _).trans h1.sub)
  obtain ⟨v, hv1, hv2⟩ := h1.cell hr2;simp (disch := omega) only [go_sem, hv1];have hsf : Sub H H1 := hs.trans hs1;refine Seen.fin hsf (Seen.tuple (.cons (fun w hw x hx => Rel.lasts (lasts_sub hs w) _ _ (hv2 w hw x hx)) (Seens.keep hsf _))) ⟨rfl, rfl⟩
end
end Go.Dl

-- The reference of chapter 2: tokens of a text.
namespace Go.Dl
open Go Go.Proofs Go.RowKit
set_option maxRecDepth 100000
def intD (w : List UInt8) : Int := match intV w with | some v => (v : Int) | none => -1
theorem intD_long {w : List UInt8} (h : ¬ w.length ≤ 10) : intD w = -1 := by rw [intD, intV, if_neg (fun x => h x.1)]
theorem intD_bad {w : List UInt8} (h : w.all digitB = false) : intD w = -1 := by rw [intD, intV, if_neg (fun x => by rw [h] at x; cases x.2.1)]
theorem intD_big {w : List UInt8} (h : ¬ decV w ≤ 2147483647) : intD w = -1 := by rw [intD, intV, if_neg (fun x => h x.2.2)]
theorem intD_ok {w : List UInt8} (h1 : w.length ≤ 10) (h2 : w.all digitB = true) (h3 : decV w ≤ 2147483647) : intD w = (decV w : Int) := by rw [intD, intV, if_pos ⟨h1, h2, h3⟩]
theorem word_take (s : List UInt8) : s.take (wordL s).length = wordL s := (List.prefix_iff_eq_take.1 (List.takeWhile_prefix _)).symm
def hitB (s w : List UInt8) : Bool := decide (w.length ≤ s.length) && decide (s.take w.length = w)
theorem symsL_at {k : Nat} {w : List UInt8} (h : symsL[k]? = some w) : (k < 7 ∧ ∃ p ∈ syms2, w = [p.1, p.2]) ∨ (7 ≤ k ∧ ∃ a ∈ syms1, w = [a]) := by
 have e : symsL = syms2.map (fun p => [p.1, p.2]) ++ syms1.map (fun a => [a]) := by decide
 rw [e, List.getElem?_append] at h;split at h
 ·rename_i hk
  rw [List.getElem?_map, Option.map_eq_some_iff] at h;obtain ⟨p, hp, rfl⟩ := h;exact .inl ⟨hk, p, List.mem_of_getElem? hp, rfl⟩
 ·rename_i hk
  rw [List.getElem?_map, Option.map_eq_some_iff] at h;obtain ⟨a, ha, rfl⟩ := h;exact .inr ⟨by simpa [syms2] using hk, a, List.mem_of_getElem? ha, rfl⟩
theorem syms2_in {k : Nat} (hk : 7 ≤ k) : ∀ p ∈ syms2, [p.1, p.2] ∈ symsL.take k := fun p hp => by
 have h7 : ∀ p ∈ syms2, [p.1, p.2] ∈ symsL.take 7 := by decide +kernel
 exact (List.take_sublist_take_left (l := symsL) hk).subset (h7 p hp)
theorem hit2 {a b : UInt8} {r : List UInt8} : hitB (a :: b :: r) [a, b] = true := by
 rw [hitB, Bool.and_eq_true, decide_eq_true_eq, decide_eq_true_eq];exact ⟨by simp, rfl⟩
theorem sym_hit {s w : List UInt8} {k : Nat} (hk : symsL[k]? = some w) (hp : hitB s w = true) (hno : ∀ u ∈ symsL.take k, hitB s u = false) : symN s = w.length := by
 rw [hitB, Bool.and_eq_true, decide_eq_true_eq, decide_eq_true_eq] at hp
 obtain ⟨h1, h2⟩ := hp
 rcases symsL_at hk with ⟨_, p, hp, rfl⟩ | ⟨h7, a, ha, rfl⟩
 ·match s, h1, h2 with
  | a :: b :: r, _, h2 =>
   have e : [a, b] = [p.1, p.2] := h2
   cases e
   show (if (p.1, p.2) ∈ syms2 then 2 else _) = 2
   rw [if_pos hp]
 ·match s, h1, h2 with
  | x :: r, _, h2 =>
   have e : [x] = [a] := h2
   cases e
   rw [symN_cons a r (fun b r' e hm => by
    subst e
    have := hno _ (syms2_in h7 _ hm)
    rw [hit2] at this; cases this), if_pos ha]; rfl
theorem sym_miss {s : List UInt8} (hno : ∀ u ∈ symsL, hitB s u = false) : symN s = 0 := by
 match s with
 | [] => rfl
 | x :: r =>
  rw [symN_cons x r (fun b r' e hm => by
   subst e
   have := hno _ (List.mem_of_mem_take (syms2_in (Nat.le_refl 7) _ hm))
   rw [hit2] at this; cases this), if_neg]
  intro hx
  have h1 : ∀ a ∈ syms1, [a] ∈ symsL := by decide +kernel
  have := hno _ (h1 x hx)
  simp [hitB] at this
section
variable {G : Nat → DVal} {H : DHeap}
theorem rwordN_spec (G : Nat → DVal) (H : DHeap) (s : List UInt8) (hs : s.length ≤ 1000000000) : DCalls Tryz.prog G 178 [.str s] H (DRet (dI (wordL s).length) H) := by
 refine dcalls_intro Tryz.func178 Tryz.call178 rfl (by kernel_rfl) ?_;simp (disch := omega) only [go_sem];obtain ⟨I, hI⟩ : ∃ I : Nat → (Nat → DVal) → DHeap → Prop, ∀ k env heap, I k env heap ↔ (env 0 = .str s ∧ env 3 = dI k ∧ k ≤ s.length ∧ (s.take k).all wordB = true ∧ heap = H) := ⟨_, fun _ _ _ => Iff.rfl⟩;refine DLoop.run I (fun k => s.length - k) 0 ((hI _ _ _).2 ?_) ?_
 ·simp (disch := omega) only [go_sem];(repeat' apply And.intro) <;> (try first | rfl | assumption | omega)
 ·intro k env heap hi;obtain ⟨e0, e3, hk, hw, rfl⟩ := (hI _ _ _).1 hi;by_cases hlt : k < s.length
  ·have hlt' : (k : Int) < (s.length : Int) := by omega
   have hg : s[k]? = some s[k] := List.getElem?_eq_getElem hlt;have hwd : IntKind.i64.wrap ((k : Int) + 1) = ((k + 1 : Nat) : Int) := by rw [IntKind.wrap_i64]; omega
   simp (disch := omega) only [go_sem, e0, e3, hlt', hg, Int.toNat_natCast];refine (rword_spec G _ s[k]).mono ?_;rintro _ H1 ⟨rfl, rfl⟩;cases hb : wordB s[k] with
   | true =>
    simp (disch := omega) only [go_sem, e0, e3];refine ⟨k + 1, _, GhostS.refl _, (hI _ _ _).2 ?_, by omega⟩;simp (disch := omega) only [go_sem, e0, e3, hwd];(repeat' apply And.intro) <;> (try first | rfl | assumption | omega);rw [List.take_add_one, hg, List.all_append, hw]; simpa using hb
   | false =>
    simp (disch := omega) only [go_sem, e0, e3];exact DFin.refl ⟨by rw [word_at hw hg hb, List.length_take, Nat.min_eq_left (by omega)], rfl⟩
  ·have : k = s.length := by omega
   subst this;simp (disch := omega) only [go_sem, e0, e3];rw [List.take_length] at hw;exact DFin.refl ⟨by rw [take_all s hw], rfl⟩
theorem rint_spec (G : Nat → DVal) (H : DHeap) (w : List UInt8) : DCalls Tryz.prog G 182 [.str w] H (DRet (dI (intD w)) H) := by
 refine dcalls_intro Tryz.func182 Tryz.call182 rfl (by kernel_rfl) ?_;by_cases hl : w.length ≤ 10
 ·have hl' : ¬ (10 : Int) < (w.length : Int) := by omega
  simp (disch := omega) only [go_sem, hl'];obtain ⟨I, hI⟩ : ∃ I : Nat → (Nat → DVal) → DHeap → Prop, ∀ k env heap, I k env heap ↔ (env 0 = .str w ∧ env 3 = dI (decV (w.take k)) ∧ env 4 = dI k ∧ k ≤ w.length ∧ (w.take k).all digitB = true ∧ decV (w.take k) < 10 ^ k ∧ heap = H) := ⟨_, fun _ _ _ => Iff.rfl⟩;refine DLoop.run I (fun k => w.length - k) 0 ((hI _ _ _).2 ?_) ?_
  ·simp (disch := omega) only [go_sem];(repeat' apply And.intro) <;> (try first | rfl | assumption | omega);decide
  ·intro k env heap hi;obtain ⟨e0, e3, e4, hk, hw, hv, rfl⟩ := (hI _ _ _).1 hi;have hp10 : 10 ^ k ≤ 10 ^ 10 := Nat.pow_le_pow_right (by omega) (by omega);have hv10 : decV (w.take k) < 10000000000 := Nat.lt_of_lt_of_le hv hp10;by_cases hlt : k < w.length
   ·have hlt' : (k : Int) < (w.length : Int) := by omega
    have hg : w[k]? = some w[k] := List.getElem?_eq_getElem hlt;have hwd : IntKind.i64.wrap ((k : Int) + 1) = ((k + 1 : Nat) : Int) := by rw [IntKind.wrap_i64]; omega
    simp (disch := omega) only [go_sem, e0, e3, e4, hlt', hg, Int.toNat_natCast];refine (rdigit_spec G _ w[k]).mono ?_;rintro _ H1 ⟨rfl, rfl⟩;cases hb : digitB w[k] with
    | true =>
     have hd := (digit_iff w[k]).1 hb;have htk : w.take (k + 1) = w.take k ++ [w[k]] := by rw [List.take_add_one, hg]; rfl
     have hds : decV (w.take (k + 1)) = 10 * decV (w.take k) + (w[k].toNat - 48) := by rw [htk, decV_snoc]
     have hall : (w.take (k + 1)).all digitB = true := by rw [htk, List.all_append, hw]; simpa using hb
     have hlt10 : decV (w.take (k + 1)) < 10 ^ (k + 1) := by rw [hds, Nat.pow_succ]; omega
     have w1 : IntKind.i64.wrap (10 * (decV (w.take k) : Int)) = 10 * (decV (w.take k) : Int) := by rw [IntKind.wrap_i64]; omega
     have w2 : IntKind.u8.wrap ((w[k].toNat : Int) - 48) = (w[k].toNat : Int) - 48 := by rw [IntKind.wrap_u8]; omega
     have w3 : IntKind.i64.wrap ((w[k].toNat : Int) - 48) = (w[k].toNat : Int) - 48 := by rw [IntKind.wrap_i64]; omega
     have w4 : IntKind.i64.wrap (10 * (decV (w.take k) : Int) + ((w[k].toNat : Int) - 48)) = (decV (w.take (k + 1)) : Int) := by rw [IntKind.wrap_i64, hds]; omega
     simp (disch := omega) only [go_sem, e0, e3, e4, hlt', hg, Int.toNat_natCast, w1, w2, w3, w4];refine ⟨k + 1, _, GhostS.refl _, (hI _ _ _).2 ?_, by omega⟩;simp (disch := omega) only [go_sem, e0, e3, e4, hwd];(repeat' apply And.intro) <;> (try first | rfl | assumption | omega)
    | false =>
     simp (disch := omega) only [go_sem, e0, e3];refine DFin.refl ⟨?_, rfl⟩;rw [intD_bad (List.all_eq_false.2 ⟨w[k], List.getElem_mem hlt, by rw [hb]; simp⟩)]
   ·have : k = w.length := by omega
    subst this;rw [List.take_length] at hw hv e3;by_cases hb : 2147483647 < decV w
    ·have hb' : (2147483647 : Int) < (decV w : Int) := by omega
     simp (disch := omega) only [go_sem, e0, e3, e4, hb'];exact DFin.refl ⟨by rw [intD_big (by omega)], rfl⟩
    ·have hb' : ¬ (2147483647 : Int) < (decV w : Int) := by omega
     simp (disch := omega) only [go_sem, e0, e3, e4, hb'];exact DFin.refl ⟨by rw [intD_ok hl hw (by omega)], rfl⟩
 ·have hl' : (10 : Int) < (w.length : Int) := by omega
  simp (disch := omega) only [go_sem, hl'];exact DFin.refl ⟨by rw [intD_long hl], rfl⟩
theorem rsym_spec (G : Nat → DVal) (H : DHeap) (s : List UInt8) (hs : s.length ≤ 1000000000) : DCalls Tryz.prog G 183 [.str s] H (DRet (dI (symN s)) H) := by
 refine dcalls_intro Tryz.func183 Tryz.call183 rfl (by kernel_rfl) ?_;simp (disch := omega) only [go_sem];refine (rsyms_spec G _).mono ?_;rintro _ H1 ⟨rfl, rfl⟩;simp (disch := omega) only [go_sem, dStrs];obtain ⟨l, hl⟩ : ∃ l, l = symsL := ⟨_, rfl⟩;rw [← hl];have hlen : l.length = 22 := by rw [hl]; rfl
 obtain ⟨I, hI⟩ : ∃ I : Nat → (Nat → DVal) → DHeap → Prop, ∀ k env heap, I k env heap ↔ (env 0 = .str s ∧ env 3 = .vslice (l.map .str) l.length ∧ env 4 = dI k ∧ k ≤ l.length ∧ (∀ u ∈ l.take k, hitB s u = false) ∧ heap = H1) := ⟨_, fun _ _ _ => Iff.rfl⟩;refine DLoop.run I (fun k => l.length - k) 0 ((hI _ _ _).2 ?_) ?_
 ·simp (disch := omega) only [go_sem];(repeat' apply And.intro) <;> (try first | rfl | assumption | omega);intro u hu; simp at hu
 ·intro k env heap hi;obtain ⟨e0, e3, e4, hk, hno, rfl⟩ := (hI _ _ _).1 hi;by_cases hlt : k < l.length
  ·have hlt' : (k : Int) < (l.length : Int) := by omega
   have hg : (l.map DVal.str)[k]? = some (.str l[k]) := by rw [List.getElem?_map, List.getElem?_eq_getElem hlt]; rfl
   have hwd : IntKind.i64.wrap ((k : Int) + 1) = ((k + 1 : Nat) : Int) := by rw [IntKind.wrap_i64]; omega
   have hbd : hitB s l[k] = (decide (l[k].length ≤ s.length) && decide (s.take l[k].length = l[k])) := rfl;simp (disch := omega) only [go_sem, e0, e3, e4, hlt', hlt, hg, Int.toNat_natCast];refine dwp_draws (by kernel_rfl) (.take 0 (.take 1 (.take 2 (.take 3 (.take 4 (.take 5 (.take 6 (.take 7 (.take 8 (.take 9 (.take 10 (.take 11 (.take 12 (.take 13 .done)))))))))))))) (by kernel_rfl) ?_;by_cases h1 : l[k].length ≤ s.length
   ·have h1' : (l[k].length : Int) ≤ (s.length : Int) := by omega
    by_cases h2 : s.take l[k].length = l[k]
    ·have hh : hitB s l[k] = true := by rw [hbd, decide_eq_true h1, decide_eq_true h2]; rfl
     simp (disch := omega) only [go_sem, e0, e3, e4, hlt', hlt, hg, h1', h2, Int.toNat_natCast];refine DFin.refl ⟨?_, rfl⟩;rw [sym_hit (k := k) (w := l[k]) (by rw [← hl]; exact List.getElem?_eq_getElem hlt) hh (by rw [← hl]; exact hno)]
    ·have hh : hitB s l[k] = false := by rw [hbd, decide_eq_false h2, Bool.and_false]
     simp (disch := omega) only [go_sem, e0, e3, e4, hlt', hlt, hg, h1', h2, Int.toNat_natCast];refine ⟨k + 1, _, GhostS.refl _, (hI _ _ _).2 ?_, by omega⟩;simp (disch := omega) only [go_sem, e0, e3, e4, hwd];(repeat' apply And.intro) <;> (try first | rfl | assumption | omega);exact take_next (p := fun x => hitB s x = false) hlt hno hh
   ·have h1' : ¬ (l[k].length : Int) ≤ (s.length : Int) := by omega
    have hh : hitB s l[k] = false := by rw [hbd, decide_eq_false h1, Bool.false_and]
    simp (disch := omega) only [go_sem, e0, e3, e4, hlt', hlt, hg, h1', Int.toNat_natCast];refine ⟨k + 1, _, GhostS.refl _, (hI _ _ _).2 ?_, by omega⟩;simp (disch := omega) only [go_sem, e0, e3, e4, hwd];(repeat' apply And.intro) <;> (try first | rfl | assumption | omega);exact take_next (p := fun x => hitB s x = false) hlt hno hh
  ·have : k = l.length := by omega
   subst this;simp (disch := omega) only [go_sem, e0, e3, e4];rw [List.take_length] at hno;refine DFin.refl ⟨?_, rfl⟩;rw [sym_miss (by rw [← hl]; exact hno)]; rfl
theorem one_spec (G : Nat → DVal) (H : DHeap) (c : UInt8) (r : List UInt8) (hs : (c :: r).length ≤ 1000000000) : DCalls Tryz.prog G 134 [.str (c :: r)] H (DRet (dFirst (firstT (c :: r))) H) := by
 have h0 : (c :: r)[0]? = some c := rfl
 have hwl := word_le (c :: r)
 have hwt : (c :: r).take ((wordL (c :: r)).length - 0) = wordL (c :: r) := word_take (c :: r)
 have hwl' : ((wordL (c :: r)).length : Int) ≤ ((c :: r).length : Int) := by omega
 refine dcalls_intro Tryz.func134 Tryz.call134 rfl (by kernel_rfl) ?_
 simp (disch := omega) only [go_sem]
 intro r2 hr2; dsimp only at hr2
 simp (disch := omega) only [go_sem]
 refine (rwordN_spec G _ (c :: r) hs).mono ?_
 rintro _ H1 ⟨rfl, rfl⟩
 simp (disch := omega) only [go_sem, h0]
 refine (rletter_spec G _ c).mono ?_
 rintro _ H1 ⟨rfl, rfl⟩
 generalize hw : wordL (c :: r) = w at hwl hwt hwl'
 cases hle : letterB c with
 | true =>
  simp (disch := omega) only [go_sem, h0, hwl', hwt]
  refine (rkey_spec G _ w).mono ?_
  rintro _ H1 ⟨rfl, rfl⟩
  cases hk : keyB w with
  | true =>
   simp (disch := omega) only [go_sem, h0, DVal.cells]
   exact DFin.dropA r2 hr2 (DFin.refl ⟨by rw [first_cons, hw, hle, if_pos rfl, hk, if_pos rfl]; rfl, rfl⟩)
  | false =>
   simp (disch := omega) only [go_sem, h0]
   refine (rname_spec G _ w).mono ?_
   rintro _ H1 ⟨rfl, rfl⟩
   cases hn : nameB w with
   | true =>
    simp (disch := omega) only [go_sem, h0, DVal.cells]
    exact DFin.dropA r2 hr2 (DFin.refl ⟨by rw [first_cons, hw, hle, if_pos rfl, hk, if_neg (by simp), hn, if_pos rfl]; rfl, rfl⟩)
   | false =>
    simp (disch := omega) only [go_sem, h0, DVal.cells]
    exact DFin.dropA r2 hr2 (DFin.refl ⟨by rw [first_cons, hw, hle, if_pos rfl, hk, if_neg (by simp), hn, if_neg (by simp)]; rfl, rfl⟩)
 | false =>
  simp (disch := omega) only [go_sem, h0]
  refine (rdigit_spec G _ c).mono ?_
  rintro _ H1 ⟨rfl, rfl⟩
  cases hd : digitB c with
  | true =>
   have hfc : firstT (c :: r) = match intV w with | some v => (⟨3, 0, [], v⟩, w.length) | none => (tok0, 0) := by
    rw [first_cons, hw, hle, if_neg (by simp), hd, if_pos rfl]; cases intV w <;> rfl
   simp (disch := omega) only [go_sem, h0, hwl', hwt]
   refine (rint_spec G _ w).mono ?_
   rintro _ H1 ⟨rfl, rfl⟩
   cases hv : intV w with
   | some v =>
    have hiv : intD w = (v : Int) := by rw [intD, hv]
    have hneg : ¬ (v : Int) < 0 := by omega
    simp (disch := omega) only [go_sem, hiv, hneg, DVal.cells]
    exact DFin.dropA r2 hr2 (DFin.refl ⟨by rw [hfc, hv]; rfl, rfl⟩)
   | none =>
    have hiv : intD w = -1 := by rw [intD, hv]
    simp (disch := omega) only [go_sem, hiv, DVal.cells]
    exact DFin.dropA r2 hr2 (DFin.refl ⟨by rw [hfc, hv]; rfl, rfl⟩)
  | false =>
   have hsl := sym_le (c :: r)
   have hsl' : (symN (c :: r) : Int) ≤ ((c :: r).length : Int) := by omega
   simp (disch := omega) only [go_sem]
   refine (rsym_spec G _ (c :: r) hs).mono ?_
   rintro _ H1 ⟨rfl, rfl⟩
   simp (disch := omega) only [go_sem, h0, DVal.cells, hsl']
   exact DFin.dropA r2 hr2 (DFin.refl ⟨by rw [first_cons, hle, if_neg (by simp), hd, if_neg (by simp)]; simp [dFirst, dTok], rfl⟩)
end
theorem com_two {c d : UInt8} {r r' : List UInt8} (hd : d ≠ 45) (h : r = d :: r') : isCom (c :: r) = false := by
 subst h;unfold isCom;split
 ·rename_i e; simp at e; exact absurd e.2.1 hd
 ·rfl
theorem com_one {c : UInt8} {r : List UInt8} (h : r = []) : isCom (c :: r) = false := by
 subst h;unfold isCom;split
 ·rename_i e; simp at e
 ·rfl
set_option maxHeartbeats 4000000 in
theorem rtokens_spec (G : Nat → DVal) (H : DHeap) (src : List UInt8) (hs : src.length ≤ 1000000000) : DCalls Tryz.prog G 85 [.str src] H (DRet (.tuple [dToks (tokensL src).1, dI (tokensL src).2.1, dI (tokensL src).2.2]) H) := by
 refine dcalls_intro Tryz.func85 Tryz.call85 rfl (by kernel_rfl) ?_
 by_cases hl : 65536 < src.length
 ·have hl' : (65536 : Int) < (src.length : Int) := by omega
  simp (disch := omega) only [go_sem, hl', List.append_nil]
  refine DFin.ghost (dToks_nil (H := H) (Sub.refl H) [dI 0, dI 3] rfl) (DFin.refl ⟨?_, rfl⟩)
  rw [tokensL, if_pos hl]
 have hl' : ¬ (65536 : Int) < (src.length : Int) := by omega
 simp (disch := omega) only [go_sem, hl']
 obtain ⟨I, hI⟩ : ∃ I : Nat × Nat × List Tok → (Nat → DVal) → DHeap → Prop, ∀ ix env heap, I ix env heap ↔ (env 0 = .str src ∧ env 6 = dI ix.2.1 ∧ env 7 = dI ix.1 ∧ ix.1 ≤ src.length ∧ ix.2.1 ≤ ix.1 + 1 ∧ ix.2.2.length ≤ 8192 ∧ restR (src.drop ix.1) ix.2.1 ix.2.2 = tokensL src ∧ OwnJ H 52 4 ix.2.2.length (ix.2.2.flatMap dTok) (env 5) heap) := ⟨_, fun _ _ _ => Iff.rfl⟩
 refine DLoop.run I (fun ix => src.length - ix.1) (0, 1, []) ((hI _ _ _).2 ?_) ?_
 ·simp (disch := omega) only [go_sem]
  (repeat' apply And.intro) <;> (try first | rfl | assumption | omega)
  ·exact (tokens_rest (by omega)).symm
  ·exact OwnJ.nil _ _ (Sub.refl _)
 ·rintro ⟨k, ln, ts⟩ env hp hi
  obtain ⟨e0, e6, e7, hk, hln, hts, hr, hv⟩ := (hI _ _ _).1 hi
  dsimp only at e6 e7 hk hln hts hr hv
  obtain ⟨v, e5⟩ : ∃ v, env 5 = v := ⟨_, rfl⟩
  rw [e5] at hv
  by_cases hlt : k < src.length
  ·have hlt' : (k : Int) < (src.length : Int) := by omega
   have hkl : (k : Int) ≤ (src.length : Int) := by omega
   obtain ⟨c, hc⟩ : ∃ c, c = src[k] := ⟨_, rfl⟩
   have hg : src[k]? = some c := by rw [hc]; exact List.getElem?_eq_getElem hlt
   have hd : src.drop k = c :: src.drop (k + 1) := by rw [hc]; exact List.drop_eq_getElem_cons hlt
   have hdr : (src.drop k).take (src.length - k) = c :: src.drop (k + 1) := by rw [← hd]; exact List.take_of_length_le (by rw [List.length_drop]; exact Nat.le_refl _)
   have hw1 : IntKind.i64.wrap ((k : Int) + 1) = ((k + 1 : Nat) : Int) := by rw [IntKind.wrap_i64]; omega
   have hwl : IntKind.i64.wrap ((ln : Int) + 1) = ((ln + 1 : Nat) : Int) := by rw [IntKind.wrap_i64]; omega
   by_cases c10 : c = 10
   ·have c10' : (c.toNat : Int) = 10 := by rw [c10]; rfl
    simp (disch := omega) only [go_sem, e0, e5, e6, e7, hlt', hg, c10', Int.toNat_natCast]
    refine ⟨(k + 1, ln + 1, ts), _, GhostS.refl _, (hI _ _ _).2 ?_, by dsimp only; omega⟩
    simp (disch := omega) only [go_sem, e0, e5, e6, e7, hw1, hwl]
    (repeat' apply And.intro) <;> (try first | rfl | assumption | omega)
    rw [← hr, hd, c10, rest_lf]
   have c10' : ¬ (c.toNat : Int) = 10 := toNat_ne (d := 10) c10
   by_cases c32 : c = 32
   ·have c32' : (c.toNat : Int) = 32 := by rw [c32]; rfl
    simp (disch := omega) only [go_sem, e0, e5, e6, e7, hlt', hg, c10', c32', Int.toNat_natCast]
    refine ⟨(k + 1, ln, ts), _, GhostS.refl _, (hI _ _ _).2 ?_, by dsimp only; omega⟩
    simp (disch := omega) only [go_sem, e0, e5, e6, e7, hw1, hwl]
    (repeat' apply And.intro) <;> (try first | rfl | assumption | omega)
    rw [← hr, hd, c32, rest_sp]
   have c32' : ¬ (c.toNat : Int) = 32 := toNat_ne (d := 32) c32
   by_cases hlt1 : k + 1 < src.length
   ·have hlt1' : ((k + 1 : Nat) : Int) < (src.length : Int) := by omega
    have hd1 : src.drop (k + 1) = src[k + 1] :: src.drop (k + 2) := List.drop_eq_getElem_cons hlt1
    have hg1 : src[k + 1]? = some src[k + 1] := List.getElem?_eq_getElem hlt1
    by_cases c45 : c = 45
    ·have c45' : (c.toNat : Int) = 45 := by rw [c45]; rfl
     by_cases d45 : src[k + 1] = 45
     ·have d45' : (src[k + 1].toNat : Int) = 45 := by rw [d45]; rfl
      have hd2 : src.drop k = 45 :: 45 :: src.drop (k + 2) := by rw [hd, hd1, c45, d45]
      obtain ⟨h, t, hls, hbad, hok⟩ := rest_com (src.drop (k + 2)) ln ts
      rw [← hd2] at hls hbad hok
      rw [hr] at hbad hok
      obtain ⟨p1, p2, _⟩ := lines_parts hls
      have hsh : ∃ q, src.drop k = h ++ q ∧ (q = [] ∨ ∃ q', q = 10 :: q') := by
       rcases p2 with ⟨_, e⟩ | ⟨_, e⟩
       ·exact ⟨[], by rw [e, List.append_nil], .inl rfl⟩
       ·exact ⟨_, e, .inr ⟨_, rfl⟩⟩
      obtain ⟨q, hq, hq2⟩ := hsh
      have hpos : 0 < h.length := by
       match h, hq with
       | [], hq =>
        rw [hd2] at hq
        rcases hq2 with rfl | ⟨q', rfl⟩
        ·cases hq
        ·have := (List.cons.inj hq).1; exact absurd this (by decide)
       | x :: h, _ => simp
      have hhl : k + h.length + q.length = src.length := by
       have := congrArg List.length hq
       rw [List.length_drop, List.length_append] at this; omega
      have hat : ∀ j (hj : j < h.length), src[k + j]? = some h[j] := fun j hj => by
       rw [← List.getElem?_drop, hq, List.getElem?_append_left hj, List.getElem?_eq_getElem hj]
      have hend : src[k + h.length]? = q[0]? := by
       rw [← List.getElem?_drop, hq, List.getElem?_append_right (Nat.le_refl _), Nat.sub_self]
      simp (disch := omega) only [go_sem, e0, e5, e6, e7, hlt', hg, c10', c32', hw1, hlt1', hg1, c45', d45', Int.toNat_natCast]
      obtain ⟨J, hJ⟩ : ∃ J : Nat → (Nat → DVal) → DHeap → Prop, ∀ j env heap, J j env heap ↔ (env 0 = .str src ∧ env 5 = v ∧ env 6 = dI ln ∧ env 7 = dI ((k + j : Nat) : Int) ∧ j ≤ h.length ∧ plainB (h.take j) = true ∧ heap = hp) := ⟨_, fun _ _ _ => Iff.rfl⟩
      refine DLoop.run J (fun j => h.length - j) 0 ((hJ _ _ _).2 ?_) ?_
      ·simp (disch := omega) only [go_sem, e0, e5, e6, e7, Nat.add_zero]
       (repeat' apply And.intro) <;> (try first | rfl | assumption | omega)
      ·intro j env' hp' hi'
       obtain ⟨f0, f5, f6, f7, hj, hpl, rfl⟩ := (hJ _ _ _).1 hi'
       by_cases hjl : j < h.length
       ·have hjl' : ((k + j : Nat) : Int) < (src.length : Int) := by omega
        have hgj := hat j hjl
        have hn10 : ¬ (h[j].toNat : Int) = 10 := toNat_ne (d := 10) fun e => p1 (by rw [← e]; exact List.getElem_mem hjl)
        have hwj : IntKind.i64.wrap (((k + j : Nat) : Int) + 1) = ((k + (j + 1) : Nat) : Int) := by rw [IntKind.wrap_i64]; omega
        have hb : ¬ (32 ≤ h[j].toNat ∧ h[j].toNat ≤ 126) → plainB h = false := fun x => by
         rw [plainB, List.all_eq_false]
         refine ⟨h[j], List.getElem_mem hjl, ?_⟩
         simp only [Bool.and_eq_true, decide_eq_true_eq]; exact x
        by_cases h1 : h[j].toNat < 32
        ·have h1' : (h[j].toNat : Int) < 32 := by omega
         simp (disch := omega) only [go_sem, f0, f5, f6, f7, hjl', hgj, hn10, h1', Int.toNat_natCast]
         refine DFin.ghost (dToks_nil (H := H) hv.sub [dI ln, dI 20] rfl) (DFin.refl ⟨?_, rfl⟩)
         rw [hbad (hb (by omega))]
        ·have h1' : ¬ (h[j].toNat : Int) < 32 := by omega
         by_cases h2 : 126 < h[j].toNat
         ·have h2' : (126 : Int) < (h[j].toNat : Int) := by omega
          simp (disch := omega) only [go_sem, f0, f5, f6, f7, hjl', hgj, hn10, h1', h2', Int.toNat_natCast]
          refine DFin.ghost (dToks_nil (H := H) hv.sub [dI ln, dI 20] rfl) (DFin.refl ⟨?_, rfl⟩)
          rw [hbad (hb (by omega))]
         ·have h2' : ¬ (126 : Int) < (h[j].toNat : Int) := by omega
          simp (disch := omega) only [go_sem, f0, f5, f6, f7, hjl', hgj, hn10, h1', h2', Int.toNat_natCast]
          refine ⟨j + 1, _, GhostS.refl _, (hJ _ _ _).2 ?_, by omega⟩
          simp (disch := omega) only [go_sem, f0, f5, f6, f7, hwj]
          (repeat' apply And.intro) <;> (try first | rfl | assumption | omega)
          rw [List.take_add_one, List.getElem?_eq_getElem hjl, plain_app, hpl]
          simp [plainB]; omega
       ·have : j = h.length := by omega
        subst this
        rw [List.take_length] at hpl
        have hgo := hok hpl
        rw [List.drop_drop] at hgo
        rcases hq2 with rfl | ⟨q', rfl⟩
        ·have hjl' : ¬ ((k + h.length : Nat) : Int) < (src.length : Int) := by simp at hhl; omega
         simp (disch := omega) only [go_sem, f0, f5, f6, f7, hjl']
         refine ⟨(k + h.length, ln, ts), _, GhostS.refl _, (hI _ _ _).2 ?_, by dsimp only; omega⟩
         simp (disch := omega) only [go_sem, f0, f5, f6, f7]
         (repeat' apply And.intro) <;> (try first | rfl | assumption | omega)
         exact hgo.symm
        ·have hjl' : ((k + h.length : Nat) : Int) < (src.length : Int) := by simp at hhl; omega
         simp (disch := omega) only [go_sem, f0, f5, f6, f7, hjl', hend, List.getElem?_cons_zero, Int.toNat_natCast]
         refine ⟨(k + h.length, ln, ts), _, GhostS.refl _, (hI _ _ _).2 ?_, by dsimp only; omega⟩
         simp (disch := omega) only [go_sem, f0, f5, f6, f7]
         (repeat' apply And.intro) <;> (try first | rfl | assumption | omega)
         exact hgo.symm
     ·have d45' : ¬ (src[k + 1].toNat : Int) = 45 := toNat_ne (d := 45) d45
      ·have hcom : isCom (c :: src.drop (k + 1)) = false := com_two d45 hd1
       simp (disch := omega) only [go_sem, e0, e5, e6, e7, hlt', hg, c10', c32', hlt1', hg1, c45', d45', Int.toNat_natCast, hdr, hkl, hw1]
       refine (one_spec G _ c (src.drop (k + 1)) (by rw [← hd, List.length_drop]; omega)).mono ?_
       rintro _ H1 ⟨rfl, rfl⟩
       have htk := rest_tok ln ts c10 c32 hcom
       have hfl := first_le (c :: src.drop (k + 1))
       rw [← hd, List.length_drop] at hfl
       rw [← hd, hr] at htk
       rw [← hd]
       generalize hf : firstT (src.drop k) = tn at htk hfl
       obtain ⟨T, n⟩ := tn
       dsimp only at htk hfl
       simp (disch := omega) only [go_sem, dFirst, DVal.cells, e0, e5, e6, e7]
       intro r8 hr8; dsimp only at hr8
       have hvf := hv.frame hr8 (.cells (dTok { T with line := (ln : Int) }) 52)
       by_cases hn : n = 0
       ·have hn' : (n : Int) = 0 := by omega
        rw [if_pos hn] at htk
        simp (disch := omega) only [go_sem, e0, e5, e6, e7, hn', dTok_len, dTok_t4, dTok_d4, dTok_one, List.append_nil]
        refine DFin.ghost (dToks_nil (H := H) (hv.new hr8 _).sub [dI ln, dI 20] rfl) (DFin.refl ⟨?_, rfl⟩)
        rw [htk]
       ·have hn' : ¬ (n : Int) = 0 := by omega
        rw [if_neg hn] at htk
        by_cases h8 : ts.length = 8192
        ·have h8' : (ts.length : Int) = 8192 := by omega
         rw [if_pos h8] at htk
         simp (disch := omega) only [go_sem, e0, e5, e6, e7, hn', hv.dLen, h8', dTok_len, dTok_t4, dTok_d4, dTok_one, List.append_nil]
         refine DFin.ghost (dToks_nil (H := H) (hv.new hr8 _).sub [dI ln, dI 3] rfl) (DFin.refl ⟨?_, rfl⟩)
         rw [htk]
        ·have h8' : ¬ (ts.length : Int) = 8192 := by omega
         rw [if_neg h8] at htk
         have hsp : splice (dTok T) 1 [dI (ln : Int)] = dTok { T with line := (ln : Int) } := rfl
         have hrep : repl 1 [DVal.int IntKind.u8 0, DVal.int IntKind.i64 0, DVal.str [], DVal.int IntKind.i64 0] = [DVal.int IntKind.u8 0, DVal.int IntKind.i64 0, DVal.str [], DVal.int IntKind.i64 0] := rfl
         have hwn : IntKind.i64.wrap ((k : Int) + (n : Int)) = ((k + n : Nat) : Int) := by rw [IntKind.wrap_i64]; omega
         simp (disch := omega) only [go_sem, e0, e5, e6, e7, hn', hv.dLen, h8', dTok_len, dTok_t4, dTok_d4, dTok_one, List.append_nil, hsp]
         rw [hrep]
         simp (disch := omega) only [go_sem, List.length_cons, List.length_nil, List.drop_succ_cons, List.drop_zero, List.append_nil, e5]
         intro ns hns; dsimp only at hns
         simp (disch := omega) only [go_sem, e0, e5, e6, e7, dTok_len, dTok_t4, dTok_d4, dTok_one, List.append_nil]
         refine OwnJ.append (m := 1) (hvf.new hns _) rfl (by omega) fun v2 H3 hv3 => ?_
         simp (disch := omega) only [go_sem, e0, e5, e6, e7]
         refine ⟨(k + n, ln, ts ++ [{ T with line := (ln : Int) }]), _, GhostS.refl _, (hI _ _ _).2 ?_, by dsimp only; omega⟩
         simp (disch := omega) only [go_sem, e0, e5, e6, e7, hwn]
         (repeat' apply And.intro) <;> (try first | rfl | assumption | omega)
         ·rw [List.length_append]; simp; omega
         ·rw [← List.drop_drop, ← htk]
         ·have := hv3.less ((Sub.refl H).up (hv.sub.lo hr8) _)
          rw [List.length_append, List.flatMap_append]
          simpa using this
    ·have c45' : ¬ (c.toNat : Int) = 45 := toNat_ne (d := 45) c45
     ·have hcom : isCom (c :: src.drop (k + 1)) = false := com_ne _ c45
      simp (disch := omega) only [go_sem, e0, e5, e6, e7, hlt', hg, c10', c32', hlt1', hg1, c45', Int.toNat_natCast, hdr, hkl, hw1]
      refine (one_spec G _ c (src.drop (k + 1)) (by rw [← hd, List.length_drop]; omega)).mono ?_
      rintro _ H1 ⟨rfl, rfl⟩
      have htk := rest_tok ln ts c10 c32 hcom
      have hfl := first_le (c :: src.drop (k + 1))
      rw [← hd, List.length_drop] at hfl
      rw [← hd, hr] at htk
      rw [← hd]
      generalize hf : firstT (src.drop k) = tn at htk hfl
      obtain ⟨T, n⟩ := tn
      dsimp only at htk hfl
      simp (disch := omega) only [go_sem, dFirst, DVal.cells, e0, e5, e6, e7]
      intro r8 hr8; dsimp only at hr8
      have hvf := hv.frame hr8 (.cells (dTok { T with line := (ln : Int) }) 52)
      by_cases hn : n = 0
      ·have hn' : (n : Int) = 0 := by omega
       rw [if_pos hn] at htk
       simp (disch := omega) only [go_sem, e0, e5, e6, e7, hn', dTok_len, dTok_t4, dTok_d4, dTok_one, List.append_nil]
       refine DFin.ghost (dToks_nil (H := H) (hv.new hr8 _).sub [dI ln, dI 20] rfl) (DFin.refl ⟨?_, rfl⟩)
       rw [htk]
      ·have hn' : ¬ (n : Int) = 0 := by omega
       rw [if_neg hn] at htk
       by_cases h8 : ts.length = 8192
       ·have h8' : (ts.length : Int) = 8192 := by omega
        rw [if_pos h8] at htk
        simp (disch := omega) only [go_sem, e0, e5, e6, e7, hn', hv.dLen, h8', dTok_len, dTok_t4, dTok_d4, dTok_one, List.append_nil]
        refine DFin.ghost (dToks_nil (H := H) (hv.new hr8 _).sub [dI ln, dI 3] rfl) (DFin.refl ⟨?_, rfl⟩)
        rw [htk]
       ·have h8' : ¬ (ts.length : Int) = 8192 := by omega
        rw [if_neg h8] at htk
        have hsp : splice (dTok T) 1 [dI (ln : Int)] = dTok { T with line := (ln : Int) } := rfl
        have hrep : repl 1 [DVal.int IntKind.u8 0, DVal.int IntKind.i64 0, DVal.str [], DVal.int IntKind.i64 0] = [DVal.int IntKind.u8 0, DVal.int IntKind.i64 0, DVal.str [], DVal.int IntKind.i64 0] := rfl
        have hwn : IntKind.i64.wrap ((k : Int) + (n : Int)) = ((k + n : Nat) : Int) := by rw [IntKind.wrap_i64]; omega
        simp (disch := omega) only [go_sem, e0, e5, e6, e7, hn', hv.dLen, h8', dTok_len, dTok_t4, dTok_d4, dTok_one, List.append_nil, hsp]
        rw [hrep]
        simp (disch := omega) only [go_sem, List.length_cons, List.length_nil, List.drop_succ_cons, List.drop_zero, List.append_nil, e5]
        intro ns hns; dsimp only at hns
        simp (disch := omega) only [go_sem, e0, e5, e6, e7, dTok_len, dTok_t4, dTok_d4, dTok_one, List.append_nil]
        refine OwnJ.append (m := 1) (hvf.new hns _) rfl (by omega) fun v2 H3 hv3 => ?_
        simp (disch := omega) only [go_sem, e0, e5, e6, e7]
        refine ⟨(k + n, ln, ts ++ [{ T with line := (ln : Int) }]), _, GhostS.refl _, (hI _ _ _).2 ?_, by dsimp only; omega⟩
        simp (disch := omega) only [go_sem, e0, e5, e6, e7, hwn]
        (repeat' apply And.intro) <;> (try first | rfl | assumption | omega)
        ·rw [List.length_append]; simp; omega
        ·rw [← List.drop_drop, ← htk]
        ·have := hv3.less ((Sub.refl H).up (hv.sub.lo hr8) _)
         rw [List.length_append, List.flatMap_append]
         simpa using this
   ·have hlt1' : ¬ ((k + 1 : Nat) : Int) < (src.length : Int) := by omega
    have hd1 : src.drop (k + 1) = [] := List.drop_eq_nil_of_le (by omega)
    ·have hcom : isCom (c :: src.drop (k + 1)) = false := com_one hd1
     simp (disch := omega) only [go_sem, e0, e5, e6, e7, hlt', hg, c10', c32', hlt1', Int.toNat_natCast, hdr, hkl, hw1]
     refine (one_spec G _ c (src.drop (k + 1)) (by rw [← hd, List.length_drop]; omega)).mono ?_
     rintro _ H1 ⟨rfl, rfl⟩
     have htk := rest_tok ln ts c10 c32 hcom
     have hfl := first_le (c :: src.drop (k + 1))
     rw [← hd, List.length_drop] at hfl
     rw [← hd, hr] at htk
     rw [← hd]
     generalize hf : firstT (src.drop k) = tn at htk hfl
     obtain ⟨T, n⟩ := tn
     dsimp only at htk hfl
     simp (disch := omega) only [go_sem, dFirst, DVal.cells, e0, e5, e6, e7]
     intro r8 hr8; dsimp only at hr8
     have hvf := hv.frame hr8 (.cells (dTok { T with line := (ln : Int) }) 52)
     by_cases hn : n = 0
     ·have hn' : (n : Int) = 0 := by omega
      rw [if_pos hn] at htk
      simp (disch := omega) only [go_sem, e0, e5, e6, e7, hn', dTok_len, dTok_t4, dTok_d4, dTok_one, List.append_nil]
      refine DFin.ghost (dToks_nil (H := H) (hv.new hr8 _).sub [dI ln, dI 20] rfl) (DFin.refl ⟨?_, rfl⟩)
      rw [htk]
     ·have hn' : ¬ (n : Int) = 0 := by omega
      rw [if_neg hn] at htk
      by_cases h8 : ts.length = 8192
      ·have h8' : (ts.length : Int) = 8192 := by omega
       rw [if_pos h8] at htk
       simp (disch := omega) only [go_sem, e0, e5, e6, e7, hn', hv.dLen, h8', dTok_len, dTok_t4, dTok_d4, dTok_one, List.append_nil]
       refine DFin.ghost (dToks_nil (H := H) (hv.new hr8 _).sub [dI ln, dI 3] rfl) (DFin.refl ⟨?_, rfl⟩)
       rw [htk]
      ·have h8' : ¬ (ts.length : Int) = 8192 := by omega
       rw [if_neg h8] at htk
       have hsp : splice (dTok T) 1 [dI (ln : Int)] = dTok { T with line := (ln : Int) } := rfl
       have hrep : repl 1 [DVal.int IntKind.u8 0, DVal.int IntKind.i64 0, DVal.str [], DVal.int IntKind.i64 0] = [DVal.int IntKind.u8 0, DVal.int IntKind.i64 0, DVal.str [], DVal.int IntKind.i64 0] := rfl
       have hwn : IntKind.i64.wrap ((k : Int) + (n : Int)) = ((k + n : Nat) : Int) := by rw [IntKind.wrap_i64]; omega
       simp (disch := omega) only [go_sem, e0, e5, e6, e7, hn', hv.dLen, h8', dTok_len, dTok_t4, dTok_d4, dTok_one, List.append_nil, hsp]
       rw [hrep]
       simp (disch := omega) only [go_sem, List.length_cons, List.length_nil, List.drop_succ_cons, List.drop_zero, List.append_nil, e5]
       intro ns hns; dsimp only at hns
       simp (disch := omega) only [go_sem, e0, e5, e6, e7, dTok_len, dTok_t4, dTok_d4, dTok_one, List.append_nil]
       refine OwnJ.append (m := 1) (hvf.new hns _) rfl (by omega) fun v2 H3 hv3 => ?_
       simp (disch := omega) only [go_sem, e0, e5, e6, e7]
       refine ⟨(k + n, ln, ts ++ [{ T with line := (ln : Int) }]), _, GhostS.refl _, (hI _ _ _).2 ?_, by dsimp only; omega⟩
       simp (disch := omega) only [go_sem, e0, e5, e6, e7, hwn]
       (repeat' apply And.intro) <;> (try first | rfl | assumption | omega)
       ·rw [List.length_append]; simp; omega
       ·rw [← List.drop_drop, ← htk]
       ·have := hv3.less ((Sub.refl H).up (hv.sub.lo hr8) _)
        rw [List.length_append, List.flatMap_append]
        simpa using this
  ·have : k = src.length := by omega
   subst this
   simp (disch := omega) only [go_sem, e0, e5, e6, e7]
   refine DFin.ghost (GhostE.tuple1' (pre := []) hv.ghost rfl rfl) (DFin.refl ⟨?_, rfl⟩)
   rw [List.drop_length, rest_nil] at hr
   rw [← hr]; rfl
end Go.Dl

-- Chapter 3: the law's helpers.
namespace Go.Dl
open Go Go.Proofs
set_option maxRecDepth 100000
theorem DCalls.monoR {P : Program} {G : Nat → DVal} {f : FuncId} {args : List DVal} {H H2 : DHeap} {v : DVal} {R : DEnd → DHeap → Prop} (h : DCalls P G f args H (DRet v H2)) (k : R (.ret v) H2) : DCalls P G f args H R := h.mono (by rintro _ _ ⟨rfl, rfl⟩; exact k)
def nmE (s : List UInt8) : Ex := .mk 3 0 0 s [] [] 0 0 0
def numE (n : Int) : Ex := .mk 1 0 n [] [] [] 0 0 0
def twoE (o : Int) (a b : Ex) : Ex := .mk 12 o 0 [] [a, b] [] 0 0 0
def oneE (o : Int) (a : Ex) : Ex := .mk 11 o 0 [] [a] [] 0 0 0
def chKind (n : Nat) : Int := if n = 0 then 3 else n
def readsB (s : List UInt8) (lv n : Int) (want : Ex) : Bool := decide ((frontP (tokensL s).1 lv).2.2 = 0) && decide ((frontP (tokensL s).1 lv).2.1 = n) && sameE (frontP (tokensL s).1 lv).1 want
def failsB (s : List UInt8) (lv at' : Int) : Bool := sameE (frontP (tokensL s).1 lv).1 ex0 && decide ((frontP (tokensL s).1 lv).2.1 = at') && decide ((frontP (tokensL s).1 lv).2.2 = 30)
section
variable {G : Nat → DVal} {H : DHeap}
theorem name3_spec (G : Nat → DVal) (H : DHeap) (s : List UInt8) : DCalls Tryz.prog G 35 [.str s] H (DRet (dE (nmE s)) H) := by
 refine dcalls_intro Tryz.func35 Tryz.call35 rfl (by kernel_rfl) ?_;simp (disch := omega) only [go_sem];intro r hr; dsimp only at hr;simp (disch := omega) only [go_sem];have hs := fun z => (Sub.refl H).new hr z;exact Seen.fin (hs _) (Seen.agg (Seen.ex (hs _) (.exs0 (hs _)) (.as0 (hs _)))) ⟨rfl, rfl⟩
theorem number_spec (G : Nat → DVal) (H : DHeap) (n : Int) : DCalls Tryz.prog G 44 [.int .i64 n] H (DRet (dE (numE n)) H) := by
 refine dcalls_intro Tryz.func44 Tryz.call44 rfl (by kernel_rfl) ?_;simp (disch := omega) only [go_sem];intro r hr; dsimp only at hr;simp (disch := omega) only [go_sem];have hs := fun z => (Sub.refl H).new hr z;exact Seen.fin (hs _) (Seen.agg (Seen.ex (hs _) (.exs0 (hs _)) (.as0 (hs _)))) ⟨rfl, rfl⟩
theorem two3_spec (G : Nat → DVal) (H : DHeap) (o : Int) (a b : Ex) : DCalls Tryz.prog G 36 [.int .u8 o, .agg (dEx a), .agg (dEx b)] H (DRet (dE (twoE o a b)) H) := by
 have hlx : (dEx a).length = 9 := dEx_len a;have hly : (dEx b).length = 9 := dEx_len b;have hab : [a, b].flatMap dEx = dEx a ++ dEx b := by simp
 refine dcalls_intro Tryz.func36 Tryz.call36 rfl (by kernel_rfl) ?_;simp (disch := omega) only [go_sem, DVal.cells];intro r4 hr4; dsimp only at hr4;simp (disch := omega) only [go_sem, DVal.cells];intro r5 hr5; dsimp only at hr5;obtain ⟨m1, m2, hr5'⟩ := upd_eq_none.1 hr5;simp (disch := omega) only [go_sem];intro r6 hr6; dsimp only at hr6;obtain ⟨m3, m4, hr6a⟩ := upd_eq_none.1 hr6;obtain ⟨m5, m6, hr6'⟩ := upd_eq_none.1 hr6a;simp (disch := omega) only [go_sem, m1, m2, m3, m4, m5, m6];rw [two_cells hlx hly];simp (disch := omega) only [go_sem, m1, m2, m3, m4, m5, m6];intro r7 hr7; dsimp only at hr7;obtain ⟨p1, p2, hr7a⟩ := upd_eq_none.1 hr7;obtain ⟨p3, p4, hr7b⟩ := upd_eq_none.1 hr7a;obtain ⟨p5, p6, hr7'⟩ := upd_eq_none.1 hr7b;simp (disch := omega) only [go_sem, m1, m2, m3, m4, m5, m6, p1, p2, p3, p4, p5, p6];have hs := (((((Sub.refl H).new hr4 (some (.cells (dEx a) 27))).new hr5 (some (.cells (dEx b) 27))).new hr6 (some (.cells [.int .u8 0, .int .u8 0, .int .i64 0, .str [], .nilSlice, .nilSlice, .int .i64 0, .int .i64 0, .int .i64 0] 27))).new hr7 (some (.cells (dEx a ++ dEx b) 27))).up hr6' (some (.cells [.int .u8 12, .int .u8 o, .int .i64 0, .str [], .oslice 9 r7 0 2 2, .nilSlice, .int .i64 0, .int .i64 0, .int .i64 0] 27));refine Seen.fin hs (Seen.agg (Seen.ex (l := [a, b]) hs (Seen.block (e := 27) hs hr7' ?_ ?_) (.as0 hs))) ⟨rfl, rfl⟩
 ·rw [hab]; simp [upd, p1, p2]
 ·rw [hab, List.length_append, hlx, hly]
theorem one3_spec (G : Nat → DVal) (H : DHeap) (o : Int) (a : Ex) : DCalls Tryz.prog G 43 [.int .u8 o, .agg (dEx a)] H (DRet (dE (oneE o a)) H) := by
 have hlx : (dEx a).length = 9 := dEx_len a;refine dcalls_intro Tryz.func43 Tryz.call43 rfl (by kernel_rfl) ?_;simp (disch := omega) only [go_sem, DVal.cells];intro r4 hr4; dsimp only at hr4;simp (disch := omega) only [go_sem, DVal.cells];intro r6 hr6; dsimp only at hr6;obtain ⟨m3, m4, hr6'⟩ := upd_eq_none.1 hr6;simp (disch := omega) only [go_sem, m3, m4];rw [one_cells hlx];simp (disch := omega) only [go_sem, m3, m4];intro r7 hr7; dsimp only at hr7;obtain ⟨p1, p2, hr7a⟩ := upd_eq_none.1 hr7;obtain ⟨p3, p4, hr7'⟩ := upd_eq_none.1 hr7a;simp (disch := omega) only [go_sem, m3, m4, p1, p2, p3, p4];have hs := ((((Sub.refl H).new hr4 (some (.cells (dEx a) 27))).new hr6 (some (.cells [.int .u8 0, .int .u8 0, .int .i64 0, .str [], .nilSlice, .nilSlice, .int .i64 0, .int .i64 0, .int .i64 0] 27))).new hr7 (some (.cells (dEx a) 27))).up hr6' (some (.cells [.int .u8 11, .int .u8 o, .int .i64 0, .str [], .oslice 9 r7 0 1 1, .nilSlice, .int .i64 0, .int .i64 0, .int .i64 0] 27));refine Seen.fin hs (Seen.agg (Seen.ex (l := [a]) hs (Seen.block (e := 27) hs hr7' ?_ ?_) (.as0 hs))) ⟨rfl, rfl⟩
 ·rw [List.flatMap_singleton]; simp [upd, p1, p2]
 ·rw [List.flatMap_singleton, hlx]
theorem choice3_spec (G : Nat → DVal) (H : DHeap) (l : List Ex) (hl : l.length ≤ 2) : DCalls Tryz.prog G 45 [dXs l] H (DRet (dC (.mk (chKind l.length) l)) H) := by
 have hk : ([DVal.int .u8 3, .int .u8 1, .int .u8 2] : List DVal)[l.length]? = some (.int .u8 (chKind l.length)) := by
  have : l.length = 0 ∨ l.length = 1 ∨ l.length = 2 := by omega
  rcases this with h | h | h <;> (rw [h]; rfl)
 have hl3 : (l.length : Int) < 3 := by omega
 refine dcalls_intro Tryz.func45 Tryz.call45 rfl (by kernel_rfl) ?_;simp (disch := omega) only [go_sem];intro r2 hr2; dsimp only at hr2;simp (disch := omega) only [go_sem];intro r3 hr3; dsimp only at hr3;obtain ⟨m1, m2, hr3'⟩ := upd_eq_none.1 hr3;simp (disch := omega) only [go_sem, m1, m2, dXs, hl3, hk, Int.toNat_natCast];have hs := fun y z => ((Sub.refl H).new hr2 (some (.cells [.int .u8 0, .nilSlice] 71))).new hr3 y |>.up hr2 z;rw [dC, dCh_eq];exact DFin.sub (hs _ _) (.refl ⟨rfl, rfl⟩)
theorem toksL_spec (G : Nat → DVal) (H : DHeap) (s : List UInt8) (hs : s.length ≤ 1000000000) : DCalls Tryz.prog G 32 [.str s] H (DRet (dToks (tokensL s).1) H) := by
 refine dcalls_intro Tryz.func32 Tryz.call32 rfl (by kernel_rfl) ?_;simp (disch := omega) only [go_sem];refine (rtokens_spec G H s hs).mono ?_;rintro _ K1 ⟨rfl, rfl⟩;simp (disch := omega) only [go_sem];exact DFin.refl ⟨rfl, rfl⟩
theorem reads3_spec (hG : GX G) (H : DHeap) (s : List UInt8) (lv n : Int) (want : Ex) (hs : s.length ≤ 800000) (hT : TokFit (tokensL s).1) (hl : (tokensL s).1.length ≤ 800000) (hF : ∀ y, (frontP (tokensL s).1 lv).1 = y → bigE y ≤ 1099511627776) :
  DCalls Tryz.prog G 59 [.str s, dI lv, dI n, .agg (dEx want)] H (DRet (.bool (readsB s lv n want)) H) := by
 unfold readsB;refine dcalls_intro Tryz.func59 Tryz.call59 rfl (by kernel_rfl) ?_;simp (disch := omega) only [go_sem, DVal.cells];intro r7 hr7; dsimp only at hr7;have hs7 := (Sub.refl H).new hr7 (some (.cells (dEx want) 27));simp (disch := omega) only [go_sem];refine (toksL_spec G _ s (by omega)).mono ?_;rintro _ K1 ⟨rfl, rfl⟩;simp (disch := omega) only [go_sem];refine (front_spec hG _ lv hl hT).mono ?_;rintro _ K2 ⟨rfl, rfl⟩;obtain ⟨p, hp⟩ : ∃ p, p = frontP (tokensL s).1 lv := ⟨_, rfl⟩;have hFp := hF p.1 (by rw [hp]);rw [← hp];simp (disch := omega) only [go_sem, dFront, dE];intro r9 hr9; dsimp only at hr9;have n79 : r7 ≠ r9 := none_ne hr9 (upd_same _ _ _);have m79 := n79.symm;have hlx := dEx_len p.1;have hox := dEx_one p.1;have hs9 := hs7.new hr9 (some (.cells (dEx p.1) 27));have h0 : (dI p.2.2) = .int .i64 p.2.2 := rfl;simp (disch := omega) only [go_sem, hlx, hox];by_cases c1 : p.2.2 = 0
 ·by_cases c2 : p.2.1 = n
  ·simp (disch := omega) only [go_sem, c1, c2, n79, m79];refine (same_spec G _ p.1 want hFp).mono ?_;rintro _ K3 ⟨rfl, rfl⟩;simp (disch := omega) only [go_sem];exact DFin.sub hs9 (.refl ⟨by simp, rfl⟩)
  ·simp (disch := omega) only [go_sem, c1, c2, n79, m79];exact DFin.sub hs9 (.refl ⟨by simp, rfl⟩)
 ·simp (disch := omega) only [go_sem, c1, n79, m79];exact DFin.sub hs9 (.refl ⟨by simp, rfl⟩)
theorem fails3_spec (hG : GX G) (H : DHeap) (s : List UInt8) (lv n : Int) (hs : s.length ≤ 800000) (hT : TokFit (tokensL s).1) (hl : (tokensL s).1.length ≤ 800000) (hF : ∀ y, (frontP (tokensL s).1 lv).1 = y → bigE y ≤ 1099511627776) :
  DCalls Tryz.prog G 60 [.str s, dI lv, dI n] H (DRet (.bool (failsB s lv n)) H) := by
 unfold failsB;refine dcalls_intro Tryz.func60 Tryz.call60 rfl (by kernel_rfl) ?_;simp (disch := omega) only [go_sem];refine (toksL_spec G _ s (by omega)).mono ?_;rintro _ K1 ⟨rfl, rfl⟩;simp (disch := omega) only [go_sem];refine (front_spec hG _ lv hl hT).mono ?_;rintro _ K2 ⟨rfl, rfl⟩;obtain ⟨p, hp⟩ : ∃ p, p = frontP (tokensL s).1 lv := ⟨_, rfl⟩;have hFp := hF p.1 (by rw [hp]);rw [← hp];simp (disch := omega) only [go_sem, dFront, dE];intro r9 hr9; dsimp only at hr9;have hlx := dEx_len p.1;have hox := dEx_one p.1;have hs9 := (Sub.refl K2).new hr9 (some (.cells (dEx p.1) 27));simp (disch := omega) only [go_sem, hlx, hox];refine (Seens.lent (args' := [.agg (dEx p.1), .agg (dEx ex0)]) (H := K2) (.cons (Seen.keep hs9 _) (.cons (Seen.ex0 hs9) .nil)) (same_spec G h0 p.1 ex0 hFp) rfl).mono ?_;rintro _ K3 ⟨rfl, rfl⟩;by_cases c0 : sameE p.1 ex0 = true
 ·by_cases c1 : p.2.1 = n
  ·simp (disch := omega) only [go_sem, c0, c1];exact DFin.sub hs9 (.refl ⟨by simp, rfl⟩)
  ·simp (disch := omega) only [go_sem, c0, c1];exact DFin.sub hs9 (.refl ⟨by simp, rfl⟩)
 ·rw [Bool.not_eq_true] at c0;simp (disch := omega) only [go_sem, c0];exact DFin.sub hs9 (.refl ⟨by simp, rfl⟩)
end
end Go.Dl

-- Chapter 3: awake: the examples.
namespace Go.Dl
open Go Go.Proofs
set_option maxRecDepth 100000
theorem tokFit_of {l : List Tok} (h : (l.all fun t => decide (t.text.length ≤ 9223372036854775807)) = true) : TokFit l := fun k => by
 rw [tk, List.getD];cases hk : l[k]? with
 | none => decide
 | some t => simpa using List.all_eq_true.1 h t (List.mem_of_getElem? hk)
def okB (s : List UInt8) (lv : Int) : Bool := decide (s.length ≤ 800000) && ((tokensL s).1.all fun t => decide (t.text.length ≤ 9223372036854775807)) && decide ((tokensL s).1.length ≤ 800000) && decide (bigE (frontP (tokensL s).1 lv).1 ≤ 1099511627776)
theorem okB_of {s : List UInt8} {lv : Int} (h : okB s lv = true) : s.length ≤ 800000 ∧ TokFit (tokensL s).1 ∧ (tokensL s).1.length ≤ 800000 ∧ ∀ y, (frontP (tokensL s).1 lv).1 = y → bigE y ≤ 1099511627776 := by
 simp only [okB, Bool.and_eq_true, decide_eq_true_eq] at h;exact ⟨h.1.1.1, tokFit_of h.1.1.2, h.1.2, fun y e => by rw [← e]; exact h.2⟩
section
variable {G : Nat → DVal}
theorem reads_true (hG : GX G) (H : DHeap) (s : List UInt8) (lv n : Int) (want : Ex) (h : (okB s lv && readsB s lv n want) = true) : DCalls Tryz.prog G 59 [.str s, dI lv, dI n, .agg (dEx want)] H (DRet (.bool true) H) := by
 rw [Bool.and_eq_true] at h;obtain ⟨h1, h2, h3, h4⟩ := okB_of h.1;have := reads3_spec hG H s lv n want h1 h2 h3 h4;rw [h.2] at this; exact this
theorem fails_true (hG : GX G) (H : DHeap) (s : List UInt8) (lv n : Int) (h : (okB s lv && failsB s lv n) = true) : DCalls Tryz.prog G 60 [.str s, dI lv, dI n] H (DRet (.bool true) H) := by
 rw [Bool.and_eq_true] at h;obtain ⟨h1, h2, h3, h4⟩ := okB_of h.1;have := fails3_spec hG H s lv n h1 h2 h3 h4;rw [h.2] at this; exact this
def eA : Ex := nmE [65]
def eB : Ex := nmE [66]
def eC : Ex := nmE [67]
def eArgs : List As := [.mk [] (nmE [88]), .mk [.mk 1 [nmE [78]]] (numE 1)]
def eCall : Ex := .mk 7 0 0 [] [nmE [70]] eArgs 0 0 0
def eFirst : Ex := .mk 6 0 0 [70, 105, 114, 115, 116] [.mk 5 0 0 [] [eCall] [] 0 0 0] [] 0 0 0
def eAggr : Ex := .mk 9 0 0 [] [] [.mk [.mk 2 [numE 1, numE 2], .mk 1 [numE 4]] (numE 0), .mk [.mk 3 []] (numE 1)] 0 0 0
def eNotIn : Ex := .mk 14 0 0 [] [nmE [88], numE 1, numE 3] [] 0 0 0
def eQual : Ex := .mk 8 0 0 [] [nmE [84], eA] [] 0 0 0
def eSum : Ex := twoE 1 eA (oneE 19 eB)
theorem ex1 : (okB [65, 32, 43, 32, 66, 32, 42, 32, 67] 0 && readsB [65, 32, 43, 32, 66, 32, 42, 32, 67] 0 5 (twoE 1 eA (twoE 3 eB eC))) = true := by decide +kernel
theorem ex2 : (okB [45, 32, 65, 32, 43, 32, 66] 2 && readsB [45, 32, 65, 32, 43, 32, 66] 2 4 (twoE 1 (oneE 19 eA) eB)) = true := by decide +kernel
theorem ex3 : (okB [70, 32, 40, 88, 44, 32, 78, 32, 61, 62, 32, 49, 41, 46, 97, 108, 108, 39, 70, 105, 114, 115, 116] 6 && readsB [70, 32, 40, 88, 44, 32, 78, 32, 61, 62, 32, 49, 41, 46, 97, 108, 108, 39, 70, 105, 114, 115, 116] 6 12 eFirst) = true := by decide +kernel
theorem ex4 : (okB [88, 32, 110, 111, 116, 32, 105, 110, 32, 49, 32, 46, 46, 32, 51] 0 && readsB [88, 32, 110, 111, 116, 32, 105, 110, 32, 49, 32, 46, 46, 32, 51] 0 6 eNotIn) = true := by decide +kernel
theorem ex5 : (okB [40, 49, 32, 46, 46, 32, 50, 32, 124, 32, 52, 32, 61, 62, 32, 48, 44, 32, 111, 116, 104, 101, 114, 115, 32, 61, 62, 32, 49, 41] 5 && readsB [40, 49, 32, 46, 46, 32, 50, 32, 124, 32, 52, 32, 61, 62, 32, 48, 44, 32, 111, 116, 104, 101, 114, 115, 32, 61, 62, 32, 49, 41] 5 13 eAggr) = true := by decide +kernel
theorem ex6 : (okB [40, 65, 41, 59] 5 && readsB [40, 65, 41, 59] 5 3 eA) = true := by decide +kernel
theorem ex7 : (okB [84, 39, 40, 65, 41] 6 && readsB [84, 39, 40, 65, 41] 6 5 eQual) = true := by decide +kernel
theorem ex8 : (okB [65, 32, 97, 110, 100, 32, 66, 32, 111, 114, 32, 67] 0 && readsB [65, 32, 97, 110, 100, 32, 66, 32, 111, 114, 32, 67] 0 3 (twoE 13 eA eB)) = true := by decide +kernel
theorem ex9 : (okB [65, 32, 43] 0 && failsB [65, 32, 43] 0 2) = true := by decide +kernel
theorem ex10 : (okB [40, 65, 59] 0 && failsB [40, 65, 59] 0 2) = true := by decide +kernel
theorem ex11 : (okB [41] 0 && failsB [41] 0 0) = true := by decide +kernel
end
end Go.Dl
