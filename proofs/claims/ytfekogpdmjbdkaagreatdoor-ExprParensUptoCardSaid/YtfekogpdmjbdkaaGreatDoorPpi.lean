/- The data level and the contracts of the functions that are reached (part 9). -/
import Derived.Test.YtfekogpdmjbdkaaGreatDoorPph
set_option linter.unusedSimpArgs false
set_option linter.unusedVariables false
set_option linter.unusedSectionVars false
-- Chapter 3: what was read fits into a machine.
namespace Go.Dl
open Go Go.Proofs
set_option maxRecDepth 100000
section
variable {l : List Tok}
theorem bigAs_snoc (a : As) : ∀ l : List As, bigAs (l ++ [a]) = bigAs l + bigA a
 | [] => by simp [bigAs]
 | x :: l => by rw [List.cons_append, bigAs, bigAs, bigAs_snoc a l]; omega
theorem bigCs_snoc (a : Ch) : ∀ l : List Ch, bigCs (l ++ [a]) = bigCs l + bigC a
 | [] => by simp [bigCs]
 | x :: l => by rw [List.cons_append, bigCs, bigCs, bigCs_snoc a l]; omega
theorem okAs_snoc (a : As) : ∀ l : List As, okAs (l ++ [a]) ↔ okAs l ∧ okA a
 | [] => by simp [okAs]
 | x :: l => by rw [List.cons_append, okAs, okAs, okAs_snoc a l]; exact and_assoc.symm
theorem okCs_snoc (a : Ch) : ∀ l : List Ch, okCs (l ++ [a]) ↔ okCs l ∧ okC a
 | [] => by simp [okCs]
 | x :: l => by rw [List.cons_append, okCs, okCs, okCs_snoc a l]; exact and_assoc.symm
def FE (k : Nat) (x : Ex) (k' : Nat) : Prop := bigE x + 1 + 2 * k ≤ 2 * k' ∧ okE x
def FL (k : Nat) (x y : Ex) (k' : Nat) : Prop := bigE y + 2 * k ≤ bigE x + 2 * k' ∧ okE y
structure PS.Fits (l : List Tok) (p : PS) : Prop where
 expr : ∀ k, k ≤ l.length → Post (FE k) (p.expr k)
 rest : ∀ x k, k ≤ l.length → okE x → Post (FL k x) (p.rest x k)
 restL : ∀ o x k, k ≤ l.length → okE x → Post (FL k x) (p.restL o x k)
 relation : ∀ x k, k ≤ l.length → okE x → Post (FL k x) (p.relation x k)
 simple : ∀ k, k ≤ l.length → Post (FE k) (p.simple k)
 addL : ∀ x k, k ≤ l.length → okE x → Post (FL k x) (p.addL x k)
 term : ∀ k, k ≤ l.length → Post (FE k) (p.term k)
 mulL : ∀ x k, k ≤ l.length → okE x → Post (FL k x) (p.mulL x k)
 factor : ∀ k, k ≤ l.length → Post (FE k) (p.factor k)
 primary : ∀ k, k ≤ l.length → Post (FE k) (p.primary k)
 paren : ∀ k, k ≤ l.length → Post (FE k) (p.paren k)
 assoc : ∀ k, k ≤ l.length → Post (fun x k' => bigA x + 1 + 2 * k ≤ 2 * k' ∧ okA x) (p.assoc k)
 assocsL : ∀ a k, k ≤ l.length → okAs a → Post (fun b k' => bigAs b + 2 * k ≤ bigAs a + 2 * k' ∧ okAs b) (p.assocsL a k)
 choice : ∀ k, k ≤ l.length → Post (fun x k' => bigC x + 2 * k ≤ 2 * k' ∧ okC x) (p.choice k)
 choicesL : ∀ a k, k ≤ l.length → okCs a → Post (fun b k' => bigCs b + 2 * k ≤ bigCs a + 2 * k' ∧ okCs b) (p.choicesL a k)
 arg : ∀ k, k ≤ l.length → Post (fun x k' => bigA x + 1 + 2 * k ≤ 2 * k' ∧ okA x) (p.arg k)
 argsL : ∀ a k, k ≤ l.length → okAs a → Post (fun b k' => bigAs b + 2 * k ≤ bigAs a + 2 * k' ∧ okAs b) (p.argsL a k)
 name : ∀ k, k ≤ l.length → Post (FE k) (p.name k)
 nameL : ∀ i x k, k ≤ l.length → okE x → Post (FL k x) (p.nameL i x k)
theorem big_both (o : Nat) (x y : Ex) : bigE (both o x y) = 1 + bigE x + bigE y := by
 rw [both, bigE]; simp only [bigL, bigAs]; omega
theorem ok_both {o : Nat} {x y : Ex} (h1 : okE x) (h2 : okE y) : okE (both o x y) := by
 rw [both, okE]; simp only [okL, okAs]; exact ⟨by decide, ⟨h1, h2, trivial⟩, trivial⟩
theorem big_mona (o : Nat) (x : Ex) (li : Int) : bigE (mona o li x) = if o = 0 then bigE x else 1 + bigE x := by
 unfold mona; split
 ·rfl
 ·rw [bigE]; simp only [bigL, bigAs]; omega
theorem ok_mona {o : Nat} {x : Ex} {li : Int} (h1 : okE x) : okE (mona o li x) := by
 unfold mona; split
 ·exact h1
 ·rw [okE]; simp only [okL, okAs]; exact ⟨by decide, ⟨h1, trivial⟩, trivial⟩
theorem stepP_fits (hT : ∀ k, (tk l k).text.length ≤ 9223372036854775807) {p : PS} (h : p.Fits l) (hA : p.Adv l) : (stepP l p).Fits l where
 expr k hk := post_then (post_and (h.simple k hk) (adv_post (hA.simple k hk))) fun x m ⟨h1, h2⟩ y k' e => by
  obtain ⟨g1, g2⟩ := h.rest x m h2.2 h1.2 y k' e
  exact ⟨by have := h1.1; omega, g2⟩
 rest x k hk hx := post_then (post_and (h.relation x k hk hx) (adv_post (hA.relation x k hk))) fun y m ⟨h1, h2⟩ z k' e => by
  obtain ⟨g1, g2⟩ := h.restL _ y m h2.2 h1.2 z k' e
  exact ⟨by have := h1.1; omega, g2⟩
 restL o x k hk hx := by
  dsimp only [stepP]
  split
  ·exact post_ok ⟨Nat.le_refl _, hx⟩
  ·obtain ⟨q1, q2, q3, q4⟩ := opF_adv (want := o) ops_ok.1 hk
   split
   ·exact post_ok ⟨Nat.le_refl _, hx⟩
   ·rename_i hq
    have := q2 hq
    refine post_then (post_and (h.simple _ q3) (adv_post (hA.simple _ q3))) fun y j ⟨h1, h2⟩ => post_then (post_and (h.relation y j h2.2 h1.2) (adv_post (hA.relation y j h2.2))) fun z i ⟨h3, h4⟩ w k' e => ?_
    obtain ⟨g1, g2⟩ := h.restL o (both o x z) i h4.2 (ok_both hx h3.2) w k' e
    rw [big_both] at g1
    have := h1.1
    have := h3.1
    exact ⟨by omega, g2⟩
 relation x k hk hx := by
  dsimp only [stepP]
  obtain ⟨q1, q2, q3, q4⟩ := opF_adv (want := 0) ops_ok.2.1 hk
  have hin : ∀ (kind : Int) (j : Nat), k + 1 ≤ j → j ≤ l.length → Post (FL k x) (inK l x kind j p) := fun kind j hkj hj => by
   refine post_then (post_and (h.simple _ hj) (adv_post (hA.simple _ hj))) fun y i ⟨h1, h2⟩ => ?_
   have := h1.1
   split
   ·rename_i hw
    have j1 := isW_lt hw h2.2
    simp only [List.length_cons, List.length_nil] at j1
    refine post_then (h.simple _ j1) fun z n h3 => post_ok ⟨?_, ?_⟩
    ·have := h3.1
     rw [bigE]; simp only [bigL, bigAs]; omega
    ·rw [okE]; simp only [okL, okAs]; exact ⟨by decide, ⟨hx, h1.2, h3.2, trivial⟩, trivial⟩
   ·split
    ·refine post_ok ⟨?_, ?_⟩
     ·rw [bigE]; simp only [bigL, bigAs]; omega
     ·rw [okE]; simp only [okL, okAs]; exact ⟨by decide, ⟨hx, h1.2, trivial⟩, trivial⟩
    ·exact post_fail
  split
  ·rename_i hq
   have := q2 hq
   refine post_then (h.simple _ q3) fun y j h1 => post_ok ⟨?_, ok_both hx h1.2⟩
   have := h1.1
   rw [big_both]; omega
  ·split
   ·rename_i hw
    have j1 := isW_lt hw hk
    simp only [List.length_cons, List.length_nil] at j1
    exact hin _ _ (by omega) j1
   ·split
    ·rename_i hw
     have j1 := isW_lt hw hk
     simp only [List.length_cons, List.length_nil] at j1
     exact hin _ _ (by omega) j1
    ·exact post_ok ⟨Nat.le_refl _, hx⟩
 simple k hk := by
  obtain ⟨q1, q2, q3, q4⟩ := opF_adv (want := 0) ops_ok.2.2.1 hk
  refine post_then (post_and (h.term _ q3) (adv_post (hA.term _ q3))) fun x j ⟨h1, h2⟩ y k' e => ?_
  obtain ⟨g1, g2⟩ := h.addL _ j h2.2 (ok_mona h1.2) y k' e
  have := h1.1
  rw [big_mona] at g1
  refine ⟨?_, g2⟩
  by_cases c : (opF l 0 k opsSign).1 = 0
  ·rw [if_pos c] at g1; omega
  ·have := q2 c
   rw [if_neg c] at g1; omega
 addL x k hk hx := by
  dsimp only [stepP]
  obtain ⟨q1, q2, q3, q4⟩ := opF_adv (want := 0) ops_ok.2.2.2.1 hk
  split
  ·exact post_ok ⟨Nat.le_refl _, hx⟩
  ·rename_i hq
   have := q2 hq
   refine post_then (post_and (h.term _ q3) (adv_post (hA.term _ q3))) fun y j ⟨h1, h2⟩ z k' e => ?_
   obtain ⟨g1, g2⟩ := h.addL _ j h2.2 (ok_both hx h1.2) z k' e
   have := h1.1
   rw [big_both] at g1
   exact ⟨by omega, g2⟩
 term k hk := post_then (post_and (h.factor k hk) (adv_post (hA.factor k hk))) fun x j ⟨h1, h2⟩ y k' e => by
  obtain ⟨g1, g2⟩ := h.mulL x j h2.2 h1.2 y k' e
  have := h1.1
  exact ⟨by omega, g2⟩
 mulL x k hk hx := by
  dsimp only [stepP]
  obtain ⟨q1, q2, q3, q4⟩ := opF_adv (want := 0) ops_ok.2.2.2.2.1 hk
  split
  ·exact post_ok ⟨Nat.le_refl _, hx⟩
  ·rename_i hq
   have := q2 hq
   refine post_then (post_and (h.factor _ q3) (adv_post (hA.factor _ q3))) fun y j ⟨h1, h2⟩ z k' e => ?_
   obtain ⟨g1, g2⟩ := h.mulL _ j h2.2 (ok_both hx h1.2) z k' e
   have := h1.1
   rw [big_both] at g1
   exact ⟨by omega, g2⟩
 factor k hk := by
  obtain ⟨q1, q2, q3, q4⟩ := opF_adv (want := 0) ops_ok.2.2.2.2.2 hk
  refine post_then (h.primary _ q3) fun x j h1 => post_ok ⟨?_, ok_mona h1.2⟩
  have := h1.1
  rw [big_mona]
  by_cases c : (opF l 0 k opsFac).1 = 0
  ·rw [if_pos c]; omega
  ·have := q2 c
   rw [if_neg c]; omega
 primary k hk := by
  dsimp only [stepP]
  split
  ·exact post_ok ⟨by rw [bigE]; simp only [bigL, bigAs]; omega, by rw [okE]; exact ⟨by decide, trivial, trivial⟩⟩
  ·split
   ·exact post_ok ⟨by rw [bigE]; simp only [bigL, bigAs]; omega, by rw [okE]; exact ⟨by decide, trivial, trivial⟩⟩
   ·split
    ·exact h.paren k hk
    ·exact h.name k hk
 paren k hk := by
  dsimp only [stepP]
  refine post_must fun hw => ?_
  have hk1 := isW_lt hw hk
  simp only [List.length_cons, List.length_nil] at hk1
  split
  ·rename_i hw2
   have hk2 := isW_lt hw2 hk1
   simp only [List.length_cons, List.length_nil] at hk2
   refine post_then (post_and (h.expr _ hk2) (adv_post (hA.expr _ hk2))) fun a i1 ⟨g1, g2⟩ => post_must fun w1 => ?_
   have j1 := isW_lt w1 g2.2
   refine post_then (post_and (h.expr _ j1) (adv_post (hA.expr _ j1))) fun b i2 ⟨g3, g4⟩ => post_must fun w2 => ?_
   have j2 := isW_lt w2 g4.2
   refine post_then (post_and (h.expr _ j2) (adv_post (hA.expr _ j2))) fun c i3 ⟨g5, g6⟩ => post_must fun w3 => post_ok ⟨?_, ?_⟩
   ·have := g1.1; have := g3.1; have := g5.1
    rw [bigE]; simp only [bigL, bigAs]; omega
   ·rw [okE]; simp only [okL, okAs]; exact ⟨by decide, ⟨g1.2, g3.2, g5.2, trivial⟩, trivial⟩
  ·refine post_then (post_and (h.assoc _ hk1) (adv_post (hA.assoc _ hk1))) fun a i1 ⟨g1, g2⟩ => post_then (post_and (h.assocsL [a] i1 g2.2 ⟨g1.2, trivial⟩) (adv_post (hA.assocsL [a] i1 g2.2))) fun b i2 ⟨g3, g4⟩ => post_must fun w1 => post_ok ?_
   have g1' := g1.1
   have g3' := g3.1
   simp only [bigAs] at g3'
   have key : ∀ li, FE k (.mk 9 0 0 [] [] b li 0 0) (i2 + 1) := fun li => ⟨by rw [bigE]; simp only [bigL]; omega, by rw [okE]; exact ⟨by decide, trivial, g3.2⟩⟩
   match b, g3, g3', key with
   | [], g3, _, key => exact key _
   | x :: y :: r, g3, _, key => exact key _
   | [x], g3, g3', key =>
    show FE k (if x.c = [] then x.e else _) _
    split
    ·simp only [bigAs] at g3'
     have h6 := bigA_eq x
     have h5 := g3.2
     simp only [okAs] at h5
     exact ⟨by omega, (okA_eq.1 h5.1).2⟩
    ·exact key _
 assoc k hk := by
  refine post_then (post_and (h.choice k hk) (adv_post (hA.choice k hk))) fun c i1 ⟨⟨g1, g1'⟩, g2⟩ => ?_
  rw [bigC_eq] at g1
  split
  ·refine post_ok ?_
   rw [okC_eq] at g1'
   rw [bigA, okA]
   simp only [bigCs, okCs]
   obtain ⟨m, hm⟩ : ∃ m, m = c.l := ⟨_, rfl⟩
   rw [← hm] at g1 g1' ⊢
   cases m with
   | nil => exact ⟨by show 0 + bigE ex0 + 1 + 2 * k ≤ _; rw [show bigE ex0 = 1 from rfl]; omega, trivial, by simp [ex0, okE, okL, okAs]⟩
   | cons x r =>
    rw [bigL] at g1
    rw [okL] at g1'
    exact ⟨by show 0 + bigE x + 1 + 2 * k ≤ _; omega, trivial, g1'.1⟩
  ·split
   ·refine post_must fun w1 => ?_
    have j1 := isW_lt w1 g2.2
    simp only [List.length_cons, List.length_nil] at j1
    refine post_then (h.expr _ j1) fun e i2 g3 => post_ok ⟨?_, ?_⟩
    ·have := g3.1
     rw [bigA]; simp only [bigCs, bigC_eq]; omega
    ·rw [okA]; exact ⟨⟨g1', trivial⟩, g3.2⟩
   ·refine post_then (post_and (h.choicesL [c] i1 g2.2 ⟨g1', trivial⟩) (adv_post (hA.choicesL [c] i1 g2.2))) fun b i2 ⟨⟨g3, g3'⟩, g4⟩ => post_must fun w1 => ?_
    have j1 := isW_lt w1 g4.2
    simp only [List.length_cons, List.length_nil] at j1
    refine post_then (h.expr _ j1) fun e i3 g5 => post_ok ⟨?_, ?_⟩
    ·have := g5.1
     simp only [bigCs, bigC_eq] at g3
     rw [bigA]; omega
    ·rw [okA]; exact ⟨g3', g5.2⟩
 assocsL a k hk ha := by
  dsimp only [stepP]
  split
  ·rename_i hw
   have := isW_lt hw hk
   simp only [List.length_cons, List.length_nil] at this
   refine post_then (post_and (h.assoc _ this) (adv_post (hA.assoc _ this))) fun x n ⟨h1, h2⟩ y k' e => ?_
   obtain ⟨g, g'⟩ := h.assocsL _ n h2.2 ((okAs_snoc _ _).2 ⟨ha, h1.2⟩) y k' e
   rw [bigAs_snoc] at g
   have := h1.1
   exact ⟨by omega, g'⟩
  ·exact post_ok ⟨Nat.le_refl _, ha⟩
 choice k hk := by
  dsimp only [stepP]
  split
  ·exact post_ok ⟨by rw [bigC]; simp only [bigL]; omega, by rw [okC]; trivial⟩
  ·refine post_then (post_and (h.simple k hk) (adv_post (hA.simple k hk))) fun x i1 ⟨g1, g2⟩ => ?_
   have := g1.1
   split
   ·rename_i hw
    have j1 := isW_lt hw g2.2
    simp only [List.length_cons, List.length_nil] at j1
    refine post_then (h.simple _ j1) fun y i2 g3 => post_ok ⟨?_, ?_⟩
    ·have := g3.1
     rw [bigC]; simp only [bigL]; omega
    ·rw [okC]; exact ⟨g1.2, g3.2, trivial⟩
   ·refine post_then (h.rest x i1 g2.2 g1.2) fun y i2 g3 => post_ok ⟨?_, ?_⟩
    ·have := g3.1
     rw [bigC]; simp only [bigL]; omega
    ·rw [okC]; exact ⟨g3.2, trivial⟩
 choicesL a k hk ha := by
  dsimp only [stepP]
  split
  ·rename_i hw
   have := isW_lt hw hk
   simp only [List.length_cons, List.length_nil] at this
   refine post_then (post_and (h.choice _ this) (adv_post (hA.choice _ this))) fun x n ⟨h1, h2⟩ y k' e => ?_
   obtain ⟨g, g'⟩ := h.choicesL _ n h2.2 ((okCs_snoc _ _).2 ⟨ha, h1.2⟩) y k' e
   rw [bigCs_snoc] at g
   have := h1.1
   exact ⟨by omega, g'⟩
  ·exact post_ok ⟨Nat.le_refl _, ha⟩
 arg k hk := by
  dsimp only [stepP]
  split
  ·rename_i hw
   have j0 := tk_lt (l := l) (k := k) (by rw [hw.1]; decide)
   have j1 := isW_lt hw.2 j0
   simp only [List.length_cons, List.length_nil] at j1
   refine post_then (h.expr _ j1) fun e i1 g1 => post_ok ⟨?_, ?_⟩
   ·have := g1.1
    rw [bigA]; simp only [bigCs, bigC, bigL, bigE, bigAs]; omega
   ·rw [okA]; simp only [okCs, okC, okL, okE, okAs]; exact ⟨⟨⟨⟨hT k, trivial, trivial⟩, trivial⟩, trivial⟩, g1.2⟩
  ·refine post_then (h.expr k hk) fun e i1 g1 => post_ok ⟨?_, ?_⟩
   ·have := g1.1
    rw [bigA]; simp only [bigCs]; omega
   ·rw [okA]; exact ⟨trivial, g1.2⟩
 argsL a k hk ha := by
  dsimp only [stepP]
  split
  ·rename_i hw
   have := isW_lt hw hk
   simp only [List.length_cons, List.length_nil] at this
   refine post_then (post_and (h.arg _ this) (adv_post (hA.arg _ this))) fun x n ⟨h1, h2⟩ y k' e => ?_
   obtain ⟨g, g'⟩ := h.argsL _ n h2.2 ((okAs_snoc _ _).2 ⟨ha, h1.2⟩) y k' e
   rw [bigAs_snoc] at g
   have := h1.1
   exact ⟨by omega, g'⟩
  ·exact post_ok ⟨Nat.le_refl _, ha⟩
 name k hk := by
  dsimp only [stepP]
  refine post_take fun hkd => ?_
  have j0 := tk_lt (l := l) (k := k) (by rw [hkd]; decide)
  intro x k' e
  obtain ⟨g, g'⟩ := h.nameL _ (.mk 3 0 0 (tk l k).text [] [] (tk l k).line 0 0) (k + 1) j0 (by rw [okE]; exact ⟨hT k, trivial, trivial⟩) x k' e
  rw [bigE] at g
  simp only [bigL, bigAs] at g
  exact ⟨by omega, g'⟩
 nameL i x k hk hx := by
  have hn : ∀ (y : Ex) (j : Nat), j ≤ l.length → okE y → bigE y + 2 * k ≤ bigE x + 2 * j → Post (FL k x) (p.nameL i y j) := fun y j hj hy hl z k' e => by
   obtain ⟨g, g'⟩ := h.nameL i y j hj hy z k' e
   exact ⟨by omega, g'⟩
  dsimp only [stepP]
  split
  ·rename_i hw
   have j1 := isW_lt hw hk
   simp only [List.length_cons, List.length_nil] at j1
   refine hn _ _ j1 ?_ ?_
   ·rw [okE]; exact ⟨by decide, ⟨hx, trivial⟩, trivial⟩
   ·rw [bigE]; simp only [bigL, bigAs]; omega
  ·split
   ·rename_i hw
    have j1 := isW_lt hw hk
    refine post_take fun hkd => ?_
    have j2 := tk_lt (l := l) (k := k + 1) (by rw [hkd]; decide)
    refine hn _ _ j2 ?_ ?_
    ·rw [okE]; exact ⟨hT _, ⟨hx, trivial⟩, trivial⟩
    ·rw [bigE]; simp only [bigL, bigAs]; omega
   ·split
    ·rename_i hw
     have j1 := isW_lt hw hk
     simp only [List.length_cons, List.length_nil] at j1
     refine post_then (post_and (h.arg _ j1) (adv_post (hA.arg _ j1))) fun a i1 ⟨g1, g2⟩ => post_then (post_and (h.argsL [a] i1 g2.2 ⟨g1.2, trivial⟩) (adv_post (hA.argsL [a] i1 g2.2))) fun b i2 ⟨g3, g4⟩ => post_must fun w1 => ?_
     have j2 := isW_lt w1 g4.2
     have g1' := g1.1
     have g3' := g3.1
     simp only [bigAs] at g3'
     refine hn _ _ j2 ?_ ?_
     ·rw [okE]; exact ⟨by decide, ⟨hx, trivial⟩, g3.2⟩
     ·rw [bigE]; simp only [bigL]; omega
    ·split
     ·rename_i hw
      have j1 := isW_lt hw hk
      simp only [List.length_cons, List.length_nil] at j1
      have j2 : k + 1 ≤ l.length := by omega
      refine post_then (post_and (h.paren _ j2) (adv_post (hA.paren _ j2))) fun y i1 ⟨g1, g2⟩ => ?_
      have g1' := g1.1
      refine hn _ _ g2.2 ?_ ?_
      ·rw [okE]; exact ⟨by decide, ⟨hx, g1.2, trivial⟩, trivial⟩
      ·rw [bigE]; simp only [bigL, bigAs]; omega
     ·split
      ·rename_i hw
       have j1 := isW_lt hw hk
       refine post_take fun hkd => ?_
       have j2 := tk_lt (l := l) (k := k + 1) (by rw [hkd]; decide)
       refine hn _ _ j2 ?_ ?_
       ·rw [okE]; exact ⟨hT _, ⟨hx, trivial⟩, trivial⟩
       ·rw [bigE]; simp only [bigL, bigAs]; omega
      ·exact post_ok ⟨Nat.le_refl _, hx⟩
theorem P_fits (hT : ∀ k, (tk l k).text.length ≤ 9223372036854775807) : ∀ n, (P l n).Fits l
 | 0 => by constructor <;> intros <;> intro x k' e <;> cases e
 | n + 1 => stepP_fits hT (P_fits hT n) (P_adv n)
end
end Go.Dl

-- Chapter 3: the package's Front, FrontArgs, FrontChoices.
namespace Go.Dl
open Go Go.Proofs
set_option maxRecDepth 100000
def lvlR (l : List Tok) : Nat → Res Ex
 | 0 => (Q l).expr 0
 | 1 => ((Q l).simple 0).then fun x k => (Q l).relation x k
 | 2 => (Q l).simple 0
 | 3 => (Q l).term 0
 | 4 => (Q l).factor 0
 | 5 => (Q l).primary 0
 | _ => (Q l).name 0
def frontP (l : List Tok) (level : Int) : Ex × Int × Int :=
 if level < 0 ∨ 7 ≤ level then (ex0, 0, 2) else match lvlR l level.toNat with
  | .ok x k => if mayE x then (x, k, 0) else (ex0, 0, 3)
  | .fail k => (ex0, k, 30)
  | .bot => (ex0, 0, 0)
section
variable {l : List Tok}
theorem lvl_ne (j : Nat) : lvlR l j ≠ .bot := by
 have t := Q_tot (l := l);have f' : ∀ {k a : Nat}, a ≤ 7 → 8 * (l.length - k) + a ≤ fuel l := fun {k a} ha => by unfold fuel; omega
 unfold lvlR;split
 ·exact t.expr _ (by omega) (f' (by omega))
 ·exact then_ne (t.simple _ (by omega) (f' (by omega))) (Q_adv.simple 0 (by omega)) fun x n _ h => t.relation _ _ h (f' (by omega))
 ·exact t.simple _ (by omega) (f' (by omega))
 ·exact t.term _ (by omega) (f' (by omega))
 ·exact t.factor _ (by omega) (f' (by omega))
 ·exact t.primary _ (by omega) (f' (by omega))
 ·exact t.name _ (by omega) (f' (by omega))
theorem lvl_adv (j : Nat) : Adv l 1 (lvlR l j) := by
 have t := Q_adv (l := l);unfold lvlR;split
 ·exact t.expr _ (by omega)
 ·exact adv_then (t.simple _ (by omega)) fun x n h1 h => adv_less (t.relation x n h) h1
 ·exact t.simple _ (by omega)
 ·exact t.term _ (by omega)
 ·exact t.factor _ (by omega)
 ·exact t.primary _ (by omega)
 ·exact t.name _ (by omega)
def TokFit (l : List Tok) : Prop := ∀ k, (tk l k).text.length ≤ 9223372036854775807
theorem lvl_fits (hT : TokFit l) (j : Nat) : Post (FE 0) (lvlR l j) := by
 have t := P_fits hT (fuel l);change (Q l).Fits l at t;unfold lvlR;split
 ·exact t.expr _ (by omega)
 ·exact post_then (post_and (t.simple _ (by omega)) (adv_post (Q_adv.simple _ (by omega)))) fun x n ⟨h1, h2⟩ y k' e => by
   obtain ⟨g, g'⟩ := t.relation x n h2.2 h1.2 y k' e;have := h1.1;exact ⟨by omega, g'⟩
 ·exact t.simple _ (by omega)
 ·exact t.term _ (by omega)
 ·exact t.factor _ (by omega)
 ·exact t.primary _ (by omega)
 ·exact t.name _ (by omega)
end
section
variable {G : Nat → DVal} {l : List Tok}
theorem front1_spec (hG : GX G) (hl : l.length ≤ 800000) (r : Nat) (H : DHeap) (hr : H r = some (rdO l 0)) : DCalls Tryz.prog G 63 [.optr r 0] H (RdR r l H ((lvlR l 1).mp dE)) := by
 have ha := rd_at (r := r) hG hl (fuel l);have hne := lvl_ne (l := l) 1;refine dcalls_intro Tryz.func63 Tryz.call63 rfl (by kernel_rfl) ?_;simp (disch := omega) only [go_sem];intro r2 hr2; dsimp only at hr2;have n2 : r ≠ r2 := none_ne hr2 hr;have q2 := n2.symm;simp (disch := omega) only [go_sem];have h0 : RAt r l 0 H (upd H r2 (some (.cells [.int .u8 0, .int .u8 0, .int .i64 0, .str [], .nilSlice, .nilSlice, .int .i64 0, .int .i64 0, .int .i64 0] 27))) := (RAt.refl hr).new hr2 _;have hp := ha.simple _ 0 h0.get (by omega);have had := Q_adv.simple (l := l) 0 (by omega);unfold lvlR at hne ⊢
 dsimp only at hp;change ((P l (fuel l)).simple 0).then _ ≠ _ at hne
 change DCalls _ _ _ _ _ _;cases hc : (P l (fuel l)).simple 0 with
 | bot => rw [hc] at hne; exact absurd rfl hne
 | fail k =>
  rw [hc] at hp;refine (hp (mp_ne (by simp))).mono ?_;rintro e H4 ⟨rfl, rfl⟩;simp (disch := omega) only [go_sem];have : (Q l).simple 0 = .fail k := hc;rw [this];exact RAt.finP (h0.set k) ⟨rfl, rfl⟩
 | ok x k =>
  rw [hc] at hp hne;have hq : (Q l).simple 0 = .ok x k := hc;rw [hq] at had;refine (hp (mp_ne (by simp))).mono ?_;rintro e H4 ⟨rfl, hH4⟩;have h4 : RAt r l k H H4 := by rw [hH4]; exact h0.set k
  have g4 : H4 r2 = some (.cells [.int .u8 0, .int .u8 0, .int .i64 0, .str [], .nilSlice, .nilSlice, .int .i64 0, .int .i64 0, .int .i64 0] 27) := by rw [hH4]; exact keepU (upd_same _ _ _) q2
  simp (disch := omega) only [go_sem, dE];have hp2 := ha.relation x H4 k h4.get had.2;dsimp only at hp2;rw [hq, then_ok];change (P l (fuel l)).relation x k ≠ _ at hne;cases hc2 : (P l (fuel l)).relation x k with
  | bot => exact absurd hc2 hne
  | fail k2 =>
   rw [hc2] at hp2;refine (hp2 (mp_ne (by simp))).mono ?_;rintro e H5 ⟨rfl, rfl⟩;simp (disch := omega) only [go_sem];have : (Q l).relation x k = .fail k2 := hc2;rw [this];exact RAt.finP (h4.set k2) ⟨rfl, rfl⟩
  | ok y k2 =>
   rw [hc2] at hp2;refine (hp2 (mp_ne (by simp))).mono ?_;rintro e H5 ⟨rfl, hH5⟩;have h5 : RAt r l k2 H H5 := by rw [hH5]; exact h4.set k2
   have g5 : H5 r2 = some (.cells [.int .u8 0, .int .u8 0, .int .i64 0, .str [], .nilSlice, .nilSlice, .int .i64 0, .int .i64 0, .int .i64 0] 27) := by rw [hH5]; exact keepU g4 q2
   have hly := dEx_len y;have hoy := dEx_one y;simp (disch := omega) only [go_sem, dE, g5, hly, hoy];have : (Q l).relation x k = .ok y k2 := hc2;rw [this];exact RAt.fin (h5.own hr2 q2 _) ⟨rfl, rfl⟩
theorem lvl_calls (hG : GX G) (hl : l.length ≤ 800000) (j : Nat) (hj : j < 7) : ∃ g, ([.func (.func 62) [] [], .func (.func 63) [] [], .func (.func 65) [] [], .func (.func 66) [] [], .func (.func 67) [] [], .func (.func 68) [] [], .func (.func 69) [] []] : List DVal)[j]? = some (.func (.func g) [] []) ∧ ∀ r H, H r = some (rdO l 0) → DCalls Tryz.prog G g [.optr r 0] H (RdR r l H ((lvlR l j).mp dE)) := by
 have ha := fun r => rd_at (r := r) hG hl (fuel l);have hne := lvl_ne (l := l) j;have hj' : j = 0 ∨ j = 1 ∨ j = 2 ∨ j = 3 ∨ j = 4 ∨ j = 5 ∨ j = 6 := by omega
 rcases hj' with rfl | rfl | rfl | rfl | rfl | rfl | rfl
 ·exact ⟨_, rfl, fun r H hr => (ha r).expr H 0 hr (by omega) (mp_ne hne)⟩
 ·exact ⟨_, rfl, fun r H hr => front1_spec hG hl r H hr⟩
 ·exact ⟨_, rfl, fun r H hr => (ha r).simple H 0 hr (by omega) (mp_ne hne)⟩
 ·exact ⟨_, rfl, fun r H hr => (ha r).term H 0 hr (by omega) (mp_ne hne)⟩
 ·exact ⟨_, rfl, fun r H hr => (ha r).factor H 0 hr (by omega) (mp_ne hne)⟩
 ·exact ⟨_, rfl, fun r H hr => (ha r).primary H 0 hr (by omega) (mp_ne hne)⟩
 ·exact ⟨_, rfl, fun r H hr => (ha r).name H 0 hr (by omega) (mp_ne hne)⟩
def dFront (p : Ex × Int × Int) : DVal := .tuple [dE p.1, dI p.2.1, dI p.2.2]
theorem Seen.ex0 {H H' : DHeap} (hs : Sub H H') : Seen H' (.agg [.int .u8 0, .int .u8 0, .int .i64 0, .str [], .nilSlice, .nilSlice, .int .i64 0, .int .i64 0, .int .i64 0]) H (dE ex0) := Seen.agg (Seen.ex (l := []) (a := []) hs (.exs0 hs) (.as0 hs))
set_option maxHeartbeats 4000000 in
theorem front_spec (hG : GX G) (H : DHeap) (level : Int) (hl : l.length ≤ 800000) (hT : TokFit l) : DCalls Tryz.prog G 17 [dToks l, dI level] H (DRet (dFront (frontP l level)) H) := by
 refine dcalls_intro Tryz.func17 Tryz.call17 rfl (by kernel_rfl) ?_
 simp (disch := omega) only [go_sem]
 intro r4 hr4; dsimp only at hr4
 have hs4 := fun z => (Sub.refl H).new hr4 z
 simp (disch := omega) only [go_sem]
 intro r8 hr8; dsimp only at hr8
 have n48 : r4 ≠ r8 := none_ne hr8 (upd_same _ _ _)
 have m48 := n48.symm
 have hr8' : H r8 = none := (hs4 _).lo hr8
 simp (disch := omega) only [go_sem]
 have hs8 := fun y => ((Sub.refl H).new hr4 (some (.cells [.int .u8 0, .int .u8 0, .int .i64 0, .str [], .nilSlice, .nilSlice, .int .i64 0, .int .i64 0, .int .i64 0] 27))).new hr8 y
 by_cases c0 : level < 0
 ·simp (disch := omega) only [go_sem, c0, n48, m48]
  have hf : frontP l level = (ex0, 0, 2) := by rw [frontP, if_pos (.inl c0)]
  rw [hf]
  have hs := fun y z => ((hs8 y).up hr4 z)
  exact Seen.fin (hs _ _) (Seen.tuple (.cons (Seen.ex0 (hs _ _)) (Seens.keep (hs _ _) _))) ⟨rfl, rfl⟩
 ·by_cases c7 : 7 ≤ level
  ·simp (disch := omega) only [go_sem, c0, c7, n48, m48]
   have hf : frontP l level = (ex0, 0, 2) := by rw [frontP, if_pos (.inr c7)]
   rw [hf]
   have hs := fun y z => ((hs8 y).up hr4 z)
   exact Seen.fin (hs _ _) (Seen.tuple (.cons (Seen.ex0 (hs _ _)) (Seens.keep (hs _ _) _))) ⟨rfl, rfl⟩
  ·obtain ⟨j, hj⟩ : ∃ j : Nat, level = j := ⟨level.toNat, by omega⟩
   subst hj
   obtain ⟨g, hg1, hg2⟩ := lvl_calls (l := l) hG hl j (by omega)
   have hf : frontP l j = match lvlR l j with
    | .ok x k => if mayE x then (x, k, 0) else (ex0, 0, 3)
    | .fail k => (ex0, k, 30)
    | .bot => (ex0, 0, 0) := by rw [frontP, if_neg (by omega), Int.toNat_natCast]
   have hj7 : (j : Int) < 7 := by omega
   simp (disch := omega) only [go_sem, c0, c7, n48, m48, hg1, Int.toNat_natCast, hj7]
   refine (readE_spec hG _ hl g (lvlR l j) (lvl_ne j) hg2).mono ?_
   rintro _ H1 ⟨rfl, hH1⟩
   have had := lvl_adv (l := l) j
   have hfit := lvl_fits hT j
   have hs1 : Sub H H1 := by rw [hH1]; exact hs8 _
   have g14 : H1 r4 = some (.cells [.int .u8 0, .int .u8 0, .int .i64 0, .str [], .nilSlice, .nilSlice, .int .i64 0, .int .i64 0, .int .i64 0] 27) := by rw [hH1]; exact keepU (upd_same _ _ _) n48
   cases hres : lvlR l j with
   | bot => exact absurd hres (lvl_ne j)
   | fail k =>
    rw [hres] at hf
    rw [hf, readE]
    have hl0 := dEx_len ex0
    have ho0 := dEx_one ex0
    simp (disch := omega) only [go_sem, dE, g14, hl0, ho0]
    have hs := fun z => hs1.up hr4 z
    exact Seen.fin (hs _) (Seen.tuple (.cons (Seen.ex0 (hs _)) (Seens.keep (hs _) _))) ⟨rfl, rfl⟩
   | ok x k =>
    rw [hres] at hf hfit had
    rw [hf, readE]
    obtain ⟨hb, hok⟩ := hfit x k rfl
    have hk := had.2
    have hF : Fit x := ⟨by omega, hok⟩
    have hlx := dEx_len x
    have hox := dEx_one x
    simp (disch := omega) only [go_sem, dE, g14, hlx, hox]
    refine (may_spec hG _ x hF).mono ?_
    rintro _ H2 ⟨rfl, hH2⟩
    have g24 : H2 r4 = some (.cells (dEx x) 27) := by rw [hH2]; exact upd_same _ _ _
    have hs2 : Sub H H2 := by rw [hH2]; exact hs1.up hr4 _
    have hs := fun z => hs2.up hr4 z
    cases hm : mayE x with
    | true =>
     simp (disch := omega) only [go_sem, g24, hlx, hox]
     exact DFin.sub (hs _) (.refl ⟨rfl, rfl⟩)
    | false =>
     simp (disch := omega) only [go_sem, g24, hlx, hox]
     exact Seen.fin (hs _) (Seen.tuple (.cons (Seen.ex0 (hs _)) (Seens.keep (hs _) _))) ⟨rfl, rfl⟩
end
end Go.Dl

-- Chapter 3: the package's writer: words, names.
namespace Go.Dl
open Go Go.Proofs
set_option maxRecDepth 100000
def WAt (B : DHeap) (r : Nat) (ts : List Tok) (H : DHeap) : Prop := ∃ v, OwnJ (upd B r (some (.cells [v] 83))) 52 4 ts.length (ts.flatMap dTok) v H
def WrC (P : Program) (G : Nat → DVal) (f : FuncId) (args : List DVal) (t : List Tok) : Prop :=
 ∀ B r ts H, B r = none → ts.length + t.length ≤ 1000000000 → WAt B r ts H → DCalls P G f (.optr r 0 :: args) H (fun e H' => e = .ret (.tuple []) ∧ WAt B r (ts ++ t) H')
section
variable {B B1 H H' : DHeap} {r x : Nat} {ts : List Tok}
theorem WAt.keep (h : WAt B r ts H) {o : DObj} (hx : B x = some o) (n : x ≠ r) : H x = some o := by
 obtain ⟨v, h⟩ := h;exact h.keep (by rw [upd_ne _ _ _ _ n]; exact hx)
theorem WAt.lo (h : WAt B r ts H) (hx : H x = none) : B x = none ∧ x ≠ r := by
 obtain ⟨v, h⟩ := h;have := h.sub.lo hx;simp only [upd] at this;split at this
 ·cases this
 ·exact ⟨this, ‹_›⟩
theorem WAt.frame (h : WAt B r ts H) (hx : H x = none) (o : DObj) : WAt (upd B x (some o)) r ts (upd H x (some o)) := by
 have n := (h.lo hx).2;obtain ⟨v, h⟩ := h;refine ⟨v, ?_⟩;rw [upd_swap n.symm];exact h.frame hx o
theorem WAt.less (h : WAt B r ts H) (s : Sub B1 B) : WAt B1 r ts H := by
 obtain ⟨v, h⟩ := h;exact ⟨v, h.less (s.both r _)⟩
theorem WAt.drop {o : DObj} (h : WAt (upd B x (some o)) r ts H) (hx : B x = none) : WAt B r ts H := h.less ((Sub.refl B).new hx _)
end
section
variable {G : Nat → DVal} {H : DHeap}
theorem dToks_snoc (ts : List Tok) (t : Tok) : (ts ++ [t]).flatMap dTok = ts.flatMap dTok ++ dTok t := by simp
set_option maxHeartbeats 4000000 in
theorem put_spec (hG : GX G) (ws : List (List UInt8)) : WrC Tryz.prog G 107 [dW ws] (ws.map wTok) := by
 intro B r ts H hB hlen hw;rw [List.length_map] at hlen;refine dcalls_intro Tryz.func107 Tryz.call107 rfl (by kernel_rfl) ?_;simp (disch := omega) only [go_sem, dW];obtain ⟨I, hI⟩ : ∃ I : Nat → (Nat → DVal) → DHeap → Prop, ∀ j env heap, I j env heap ↔ (env 0 = .optr r 0 ∧ env 7 = dW ws ∧ env 8 = dI ws.length ∧ env 9 = dI j ∧ j ≤ ws.length ∧ WAt B r (ts ++ (ws.take j).map wTok) heap) := ⟨_, fun _ _ _ => Iff.rfl⟩;refine DLoop.run I (fun j => ws.length - j) 0 ((hI _ _ _).2 ?_) ?_
 ·simp (disch := omega) only [go_sem];(repeat' apply And.intro) <;> (try first | rfl | assumption | omega);simpa using hw
 ·intro j env heap hi;obtain ⟨e0, e7, e8, e9, hj, hwj⟩ := (hI _ _ _).1 hi;by_cases hlt : j < ws.length
  ·have hlt' : (j : Int) < (ws.length : Int) := by omega
   have hw1 : IntKind.i64.wrap ((j : Int) + 1) = ((j + 1 : Nat) : Int) := by rw [IntKind.wrap_i64]; omega
   have hget : (ws.map DVal.str)[j]? = some (.str ws[j]) := by rw [List.getElem?_map, List.getElem?_eq_getElem hlt]; rfl
   have hml : (ws.map DVal.str).length = ws.length := List.length_map _;have htk : (ws.take (j + 1)).map wTok = (ws.take j).map wTok ++ [wTok ws[j]] := by rw [List.take_add_one, List.getElem?_eq_getElem hlt, Option.toList_some, List.map_append, List.map_singleton]
   obtain ⟨s, hse⟩ : ∃ s, s = ws[j] := ⟨_, rfl⟩;rw [← hse] at hget htk;simp (disch := omega) only [go_sem, e0, e7, e8, e9, hlt', dW, hget, hml, Int.toNat_natCast];intro r6 hr6; dsimp only at hr6;simp (disch := omega) only [go_sem, e0, e7, e8, e9];obtain ⟨v, hv⟩ := hwj;have gr := hv.keep (upd_same _ _ _);have n6 : r ≠ r6 := none_ne hr6 gr;have m6 := n6.symm;have hl2 : (ts ++ (ws.take j).map wTok).length ≤ 1000000000 := by rw [List.length_append, List.length_map, List.length_take]; omega
   refine (key_spec hG _ s).mono ?_;rintro _ H2 ⟨rfl, rfl⟩;cases hkb : keyB s with
   | true =>
    have hk : wTok s = ⟨2, 0, s, 0⟩ := by rw [wTok, kindW, hkb]; rfl
    simp (disch := omega) only [go_sem, e0, e7, e8, e9];refine dwp_draws (by kernel_rfl) (.take 0 (.take 1 (.take 2 (.take 3 (.take 4 (.take 5 (.go 6 [4] (.go 7 [] (.take 8 (.take 9 (.go 10 [] .done))))))))))) (by kernel_rfl) ?_;simp (disch := omega) only [go_sem, e0, e7, e8, e9, gr, n6, m6];intro r24 hr24; dsimp only at hr24;have n24 : r ≠ r24 := none_ne hr24 (keepU gr n6);have m24 := n24.symm;have hv6 := (hv.new hr6 _).new hr24 (some (.cells (dTok (wTok s)) 52));simp (disch := omega) only [go_sem, e0, e7, e8, e9, gr, n6, m6, n24, m24];rw [hk] at hv6;refine OwnJ.append (m := 1) hv6 rfl (by omega) fun v2 H6 hv2 => ?_;have g6 := hv2.keep (upd_same _ _ _);obtain ⟨j1, j2⟩ := hv2.cell1;simp (disch := omega) only [go_sem, e0, e7, e8, e9, g6, j1, j2];refine ⟨j + 1, _, GhostS.refl _, (hI _ _ _).2 ?_, by omega⟩;simp (disch := omega) only [go_sem, e0, e7, e8, e9, hw1];(repeat' apply And.intro) <;> (try first | rfl | assumption | omega);refine ⟨v2, ?_⟩;have hv3 := hv2.at (upd_same _ _ _) (some (.cells [v2] 83));rw [upd_upd] at hv3;rw [htk, ← List.append_assoc, dToks_snoc, hk, List.length_append, List.length_singleton];exact hv3
   | false =>
    have hk : wTok s = ⟨4, 0, s, 0⟩ := by rw [wTok, kindW, hkb]; rfl
    simp (disch := omega) only [go_sem, e0, e7, e8, e9];refine dwp_draws (by kernel_rfl) (.take 0 (.take 1 (.take 2 (.take 3 (.take 4 (.take 5 (.go 6 [4] (.go 7 [] (.take 8 (.take 9 (.go 10 [] .done))))))))))) (by kernel_rfl) ?_;simp (disch := omega) only [go_sem, e0, e7, e8, e9, gr, n6, m6];intro r24 hr24; dsimp only at hr24;have n24 : r ≠ r24 := none_ne hr24 (keepU gr n6);have m24 := n24.symm;have hv6 := (hv.new hr6 _).new hr24 (some (.cells (dTok (wTok s)) 52));simp (disch := omega) only [go_sem, e0, e7, e8, e9, gr, n6, m6, n24, m24];rw [hk] at hv6;refine OwnJ.append (m := 1) hv6 rfl (by omega) fun v2 H6 hv2 => ?_;have g6 := hv2.keep (upd_same _ _ _);obtain ⟨j1, j2⟩ := hv2.cell1;simp (disch := omega) only [go_sem, e0, e7, e8, e9, g6, j1, j2];refine ⟨j + 1, _, GhostS.refl _, (hI _ _ _).2 ?_, by omega⟩;simp (disch := omega) only [go_sem, e0, e7, e8, e9, hw1];(repeat' apply And.intro) <;> (try first | rfl | assumption | omega);refine ⟨v2, ?_⟩;have hv3 := hv2.at (upd_same _ _ _) (some (.cells [v2] 83));rw [upd_upd] at hv3;rw [htk, ← List.append_assoc, dToks_snoc, hk, List.length_append, List.length_singleton];exact hv3
  ·have : j = ws.length := by omega
   subst this;have hlt' : ¬ (ws.length : Int) < (ws.length : Int) := by omega
   rw [List.take_length] at hwj;simp (disch := omega) only [go_sem, e0, e7, e8, e9, hlt'];exact DFin.refl ⟨rfl, hwj⟩
end
end Go.Dl

-- Chapter 3: the package's writer: names, parts, bounds, operators, membership, choices.
namespace Go.Dl
open Go Go.Proofs
set_option maxRecDepth 100000
section
variable {G : Nat → DVal} {H B : DHeap} {r : Nat} {ts : List Tok}
theorem WAt.ne {x : Nat} (h : WAt B r ts H) (hx : H x = none) : r ≠ x := fun e => (h.lo hx).2 e.symm
def WQ (B : DHeap) (r : Nat) (ts : List Tok) (e : DEnd) (H' : DHeap) : Prop := e = .ret (.tuple []) ∧ WAt B r ts H'
theorem put1 (hG : GX G) (s : List UInt8) {q : Nat} (hq : H q = none) (hB : B r = none) (hlen : ts.length + 1 ≤ 1000000000) (hw : WAt B r ts H) : DCalls Tryz.prog G 107 [.optr r 0, .oslice 1 q 0 1 1] (upd H q (some (.cells [.str s] 9))) (WQ B r (ts ++ [wTok s])) := by
 refine DCalls.fzA q hq ?_;have n : r ≠ q := hw.ne hq;simp only [fzs, fz, if_neg n, if_pos];exact put_spec hG [s] B r ts H hB hlen hw
theorem put2 (hG : GX G) (s t : List UInt8) {q : Nat} (hq : H q = none) (hB : B r = none) (hlen : ts.length + 2 ≤ 1000000000) (hw : WAt B r ts H) : DCalls Tryz.prog G 107 [.optr r 0, .oslice 1 q 0 2 2] (upd H q (some (.cells [.str s, .str t] 9))) (WQ B r (ts ++ [wTok s, wTok t])) := by
 refine DCalls.fzA q hq ?_;have n : r ≠ q := hw.ne hq;simp only [fzs, fz, if_neg n, if_pos];exact put_spec hG [s, t] B r ts H hB hlen hw
theorem wname_spec (G : Nat → DVal) (s : List UInt8) : WrC Tryz.prog G 108 [.str s] [nmTok s] := by
 intro B r ts H hB hlen hw;rw [List.length_singleton] at hlen;refine dcalls_intro Tryz.func108 Tryz.call108 rfl (by kernel_rfl) ?_;simp (disch := omega) only [go_sem];obtain ⟨v, hv⟩ := hw;have gr := hv.keep (upd_same _ _ _);simp (disch := omega) only [go_sem, gr];intro r6 hr6; dsimp only at hr6;have n6 : r ≠ r6 := none_ne hr6 gr;have m6 := n6.symm;have hv6 := hv.new hr6 (some (.cells (dTok (nmTok s)) 52));simp (disch := omega) only [go_sem, gr, n6, m6];refine OwnJ.append (m := 1) hv6 rfl (by omega) fun v2 H6 hv2 => ?_;have g6 := hv2.keep (upd_same _ _ _);obtain ⟨j1, j2⟩ := hv2.cell1;simp (disch := omega) only [go_sem, g6, j1, j2];refine DFin.refl ⟨rfl, v2, ?_⟩;have hv3 := hv2.at (upd_same _ _ _) (some (.cells [v2] 83));rw [upd_upd] at hv3;rw [dToks_snoc, List.length_append, List.length_singleton];exact hv3
end
section
variable {G : Nat → DVal}
set_option maxHeartbeats 4000000 in
theorem wpart_spec (hG : GX G) (e : Ex) (lv : Int) (he : WrC Tryz.prog G 53 [.agg (dEx e)] (toksE e)) : WrC Tryz.prog G 109 [.agg (dEx e), dI lv] (partE e lv) := by
 intro B r ts H hB hlen hw;refine dcalls_intro Tryz.func109 Tryz.call109 rfl (by kernel_rfl) ?_;simp (disch := omega) only [go_sem, DVal.cells];intro r4 hr4; dsimp only at hr4;obtain ⟨K, hK⟩ : ∃ K', K' = upd H r4 (some (.cells (dEx e) 27)) := ⟨_, rfl⟩;rw [← hK];have gr4 : K r4 = some (.cells (dEx e) 27) := by rw [hK]; exact upd_same _ _ _
 have hwK : WAt (upd B r4 (some (.cells (dEx e) 27))) r ts K := by rw [hK]; exact hw.frame hr4 _
 have n4 : r ≠ r4 := hw.ne hr4;have hB4 : B r4 = none := (hw.lo hr4).1;have hBK : upd B r4 (some (.cells (dEx e) 27)) r = none := by rw [upd_ne _ _ _ _ n4]; exact hB
 simp (disch := omega) only [go_sem, gr4];refine (level_spec G K e).mono ?_;rintro _ K1 ⟨rfl, rfl⟩;by_cases c : levelE e < lv
 ·have c' : ¬ lv ≤ levelE e := by omega
  have hp : partE e lv = wTok wOpen :: (toksE e ++ [wTok wShut]) := by rw [partE, decide_eq_true c]; rfl
  rw [hp] at hlen ⊢
  simp only [List.length_cons, List.length_append, List.length_nil] at hlen;simp (disch := omega) only [go_sem, c'];intro q1 hq1; dsimp only at hq1;simp (disch := omega) only [go_sem];refine (put1 hG wOpen hq1 hBK (by omega) hwK).mono ?_;rintro _ H1 ⟨rfl, h1⟩;have g1 := h1.keep (upd_same _ _ _) n4.symm;simp (disch := omega) only [go_sem, g1];refine (he _ r _ _ hBK (by simp; omega) h1).mono ?_;rintro _ H2 ⟨rfl, h2⟩;simp (disch := omega) only [go_sem];intro q2 hq2; dsimp only at hq2;simp (disch := omega) only [go_sem];refine (put1 hG wShut hq2 hBK (by simp; omega) h2).mono ?_;rintro _ H3 ⟨rfl, h3⟩;simp (disch := omega) only [go_sem];refine DFin.refl ⟨rfl, ?_⟩;have := h3.drop hB4;simpa using this
 ·have c' : lv ≤ levelE e := by omega
  have hp : partE e lv = toksE e := by rw [partE, decide_eq_false c]; rfl
  rw [hp] at hlen ⊢
  simp (disch := omega) only [go_sem, c', gr4];refine (he _ r _ _ hBK hlen hwK).mono ?_;rintro _ H1 ⟨rfl, h1⟩;simp (disch := omega) only [go_sem];exact DFin.refl ⟨rfl, h1.drop hB4⟩
end
end Go.Dl

-- Chapter 3: expressions: the plain laws, part 9: reading without the lines.
namespace Go.Dl
open Go
set_option maxRecDepth 10000
mutual
/-- Without lines, entities, types. -/
def stE : Ex → Ex
 | .mk k o n s l a _ _ _ => .mk k o n s (stL l) (stAs a) 0 0 0
def stL : List Ex → List Ex
 | [] => []
 | x :: l => stE x :: stL l
def stA : As → As
 | .mk c e => .mk (stCs c) (stE e)
def stAs : List As → List As
 | [] => []
 | x :: l => stA x :: stAs l
def stC : Ch → Ch
 | .mk k l => .mk k (stL l)
def stCs : List Ch → List Ch
 | [] => []
 | x :: l => stC x :: stCs l
end
theorem stL_map : ∀ l : List Ex, stL l = l.map stE
 | [] => rfl
 | x :: l => by rw [stL, stL_map l, List.map_cons]
theorem stAs_map : ∀ l : List As, stAs l = l.map stA
 | [] => rfl
 | x :: l => by rw [stAs, stAs_map l, List.map_cons]
theorem stCs_map : ∀ l : List Ch, stCs l = l.map stC
 | [] => rfl
 | x :: l => by rw [stCs, stCs_map l, List.map_cons]
theorem stE_kind (e : Ex) : (stE e).kind = e.kind := by cases e; rfl
theorem stE_oper (e : Ex) : (stE e).oper = e.oper := by cases e; rfl
theorem stE_n (e : Ex) : (stE e).n = e.n := by cases e; rfl
theorem stE_s (e : Ex) : (stE e).s = e.s := by cases e; rfl
theorem stE_l (e : Ex) : (stE e).l = e.l.map stE := by cases e; exact stL_map _
theorem stE_a (e : Ex) : (stE e).a = e.a.map stA := by cases e; exact stAs_map _
theorem stE_line (e : Ex) : (stE e).line = 0 := by cases e; rfl
theorem stA_c (x : As) : (stA x).c = x.c.map stC := by cases x; exact stCs_map _
theorem stA_e (x : As) : (stA x).e = stE x.e := by cases x; rfl
theorem stC_kind (c : Ch) : (stC c).kind = c.kind := by cases c; rfl
theorem stC_l (c : Ch) : (stC c).l = c.l.map stE := by cases c; exact stL_map _
theorem stE_eq (e : Ex) : stE e = .mk e.kind e.oper e.n e.s (e.l.map stE) (e.a.map stA) 0 0 0 := by cases e; rw [stE, stL_map, stAs_map]; rfl
theorem stA_eq (x : As) : stA x = .mk (x.c.map stC) (stE x.e) := by cases x; rw [stA, stCs_map]; rfl
theorem stC_eq (c : Ch) : stC c = .mk c.kind (c.l.map stE) := by cases c; rw [stC, stL_map]; rfl
mutual
theorem same_stE : ∀ e f : Ex, sameE e f = true ↔ stE e = stE f
 | .mk k o n s l a li en t, .mk k' o' n' s' l' a' li' en' t' => by
  rw [sameE, stE, stE]
  show (decide (k = k') && decide (o = o') && decide (n = n') && decide (s = s') && sameLE l l' && sameAs a a') = true ↔ _
  simp only [Bool.and_eq_true, decide_eq_true_eq, same_stL l l', same_stAs a a', Ex.mk.injEq, and_true, and_assoc]
theorem same_stL : ∀ l m : List Ex, sameLE l m = true ↔ stL l = stL m
 | [], [] => by simp [sameLE, stL]
 | [], y :: m => by simp [sameLE, stL]
 | x :: l, [] => by simp [sameLE, stL]
 | x :: l, y :: m => by rw [sameLE, stL, stL, Bool.and_eq_true, same_stE x y, same_stL l m, List.cons.injEq]
theorem same_stA : ∀ x y : As, sameA x y = true ↔ stA x = stA y
 | .mk c e, .mk c' e' => by
  rw [sameA, stA, stA]
  show (sameCs c c' && sameE e e') = true ↔ _
  simp only [Bool.and_eq_true, same_stCs c c', same_stE e e', As.mk.injEq]
theorem same_stAs : ∀ l m : List As, sameAs l m = true ↔ stAs l = stAs m
 | [], [] => by simp [sameAs, stAs]
 | [], y :: m => by simp [sameAs, stAs]
 | x :: l, [] => by simp [sameAs, stAs]
 | x :: l, y :: m => by rw [sameAs, stAs, stAs, Bool.and_eq_true, same_stA x y, same_stAs l m, List.cons.injEq]
theorem same_stC : ∀ x y : Ch, sameC x y = true ↔ stC x = stC y
 | .mk k l, .mk k' l' => by
  rw [sameC, stC, stC]
  show (decide (k = k') && sameLE l l') = true ↔ _
  simp only [Bool.and_eq_true, decide_eq_true_eq, same_stL l l', Ch.mk.injEq]
theorem same_stCs : ∀ l m : List Ch, sameCs l m = true ↔ stCs l = stCs m
 | [], [] => by simp [sameCs, stCs]
 | [], y :: m => by simp [sameCs, stCs]
 | x :: l, [] => by simp [sameCs, stCs]
 | x :: l, y :: m => by rw [sameCs, stCs, stCs, Bool.and_eq_true, same_stC x y, same_stCs l m, List.cons.injEq]
end
theorem named_st (e : Ex) : namedE (stE e) = namedE e := by rw [namedE, namedE, stE_kind]
theorem getD_mapE (l : List Ex) (i : Nat) : (l.map stE).getD i ex0 = stE (l.getD i ex0) := by
 rw [List.getD, List.getD, List.getElem?_map];cases l[i]? <;> rfl
theorem isEmpty_map {α β : Type} (f : α → β) (l : List α) : (l.map f).isEmpty = l.isEmpty := by cases l <;> rfl
theorem namedN_st (e : Ex) (k : Nat) : namedN (stE e) k = namedN e k := by
 rw [namedN, namedN, stE_l, List.length_map, getD_mapE, named_st]
theorem inOrd_st : ∀ l : List As, inOrd (l.map stA) = inOrd l
 | [] => rfl
 | [_] => rfl
 | a :: b :: r => by
  have := inOrd_st (b :: r);rw [List.map_cons] at this;rw [List.map_cons, List.map_cons, inOrd, inOrd, this, stA_c, stA_c, isEmpty_map, isEmpty_map]
theorem simpleCs_st (l : List Ch) : simpleCs (l.map stC) = simpleCs l := by
 match l with
 | [] => rfl
 | [.mk k []] => rfl
 | [.mk k [x]] => show (decide _ && decide ((stE x).kind = 3)) = _; rw [stE_kind]; rfl
 | [.mk k (x :: y :: r)] => rfl
 | c :: d :: r => rfl
theorem rightC_st (n : Nat) (c : Ch) : rightC n (stC c) = rightC n c := by simp only [rightC, stC_kind, stC_l, List.length_map]
theorem all_map {α β : Type} (f : α → β) (p : β → Bool) (l : List α) : (l.map f).all p = l.all fun x => p (f x) := by rw [List.all_map]; rfl
theorem rightCs_st (l : List Ch) : rightCs (l.map stC) = rightCs l := by
 simp only [rightCs, List.length_map, all_map, rightC_st]
theorem argsOk_st (l : List As) : argsOk (l.map stA) = argsOk l := by
 simp only [argsOk, List.length_map, inOrd_st, all_map, stA_c, isEmpty_map, simpleCs_st]
theorem firstOthers_st (l : List Ch) : firstOthers (l.map stC) = firstOthers l := by
 cases l with
 | nil => rfl
 | cons c r => simp only [List.map_cons, firstOthers, stC_kind]
theorem assocAll_st : ∀ l : List As, assocAll (l.map stA) = assocAll l
 | [] => rfl
 | a :: r => by simp only [List.map_cons, assocAll, assocAll_st r, stA_c, isEmpty_map, rightCs_st, firstOthers_st]
theorem oneBare_st (l : List As) : oneBare (l.map stA) = oneBare l := by
 match l with
 | [] => rfl
 | [a] => show (stA a).c.isEmpty = _; rw [stA_c, isEmpty_map]; rfl
 | _ :: _ :: _ => rfl
theorem assocsOk_st (l : List As) : assocsOk (l.map stA) = assocsOk l := by
 simp only [assocsOk, List.length_map, inOrd_st, oneBare_st, assocAll_st]
theorem fields_st (e : Ex) : fieldsE (stE e) = fieldsE e := by
 simp only [fieldsE, zO, zN, zS, zA, namedN_st, stE_kind, stE_oper, stE_n, stE_s, stE_l, stE_a, isEmpty_map, List.length_map, argsOk_st, assocsOk_st, getD_mapE, named_st]
theorem flatMap_map' {α β γ : Type} (f : α → β) (g : β → List γ) (l : List α) : (l.map f).flatMap g = l.flatMap fun x => g (f x) := by
 induction l with
 | nil => rfl
 | cons x l ih => rw [List.map_cons, List.flatMap_cons, List.flatMap_cons, ih]
theorem partsA_st (x : As) : partsA (stA x) = (partsA x).map stE := by
 rw [partsA, partsA, stA_c, stA_e, flatMap_map', List.map_append, List.map_flatMap, List.map_singleton];congr 1;simp only [stC_l]
theorem parts_st (e : Ex) : parts (stE e) = (parts e).map stE := by
 rw [parts, parts, stE_l, stE_a, flatMap_map', List.map_append, List.map_flatMap];simp only [partsA_st]
theorem size_st (e : Ex) : sizeE (stE e) = sizeE e := by
 refine Ex.ind (p := fun e => sizeE (stE e) = sizeE e) (fun e ih => ?_) e;rw [sizeE_sum, sizeE_sum e, parts_st, sumE, sumE, List.map_map];congr 2;exact List.map_congr_left ih
theorem valid_st (e : Ex) : ∀ d, validE d (stE e) = validE d e := by
 refine Ex.ind (p := fun e => ∀ d, validE d (stE e) = validE d e) (fun e ih d => ?_) e;rw [validE_eq, validE_eq d e, fields_st, parts_st, all_map];congr 1;rw [Bool.eq_iff_iff, List.all_eq_true, List.all_eq_true];exact ⟨fun h x hx => by rw [← ih x hx]; exact h x hx, fun h x hx => by rw [ih x hx]; exact h x hx⟩
theorem mayE_st (e : Ex) : mayE (stE e) = mayE e := by rw [mayE, mayE, valid_st, size_st]
theorem same_may {e f : Ex} (h : stE e = stE f) : mayE e = mayE f := by rw [← mayE_st e, h, mayE_st]
def stT (t : Tok) : Tok := ⟨t.kind, 0, t.text, t.n⟩
section
variable {l : List Tok}
theorem tk_st (k : Nat) : tk (l.map stT) k = stT (tk l k) := by
 rw [tk, tk, List.getD, List.getD, List.getElem?_map];cases l[k]? <;> rfl
theorem tk_st_kind (k : Nat) : (tk (l.map stT) k).kind = (tk l k).kind := by rw [tk_st]; rfl
theorem tk_st_text (k : Nat) : (tk (l.map stT) k).text = (tk l k).text := by rw [tk_st]; rfl
theorem tk_st_n (k : Nat) : (tk (l.map stT) k).n = (tk l k).n := by rw [tk_st]; rfl
theorem tk_st_line (k : Nat) : (tk (l.map stT) k).line = 0 := by rw [tk_st]; rfl
theorem isW_st : ∀ (ws : List (List UInt8)) (k : Nat), isW (l.map stT) k ws = isW l k ws
 | [], _ => rfl
 | s :: r, k => by rw [isW, isW, tk_st_kind, tk_st_text, isW_st r]
theorem opF_st (want k : Nat) : ∀ os : List Nat, opF (l.map stT) want k os = opF l want k os
 | [] => rfl
 | o :: r => by rw [opF, opF, isW_st, opF_st want k r]
def Nt {α β : Type} (f : α → β) : Res α → Res β → Prop
 | .bot, r => r = .bot
 | .fail k, r => r = .fail k
 | .ok x k, r => r = .ok (f x) k
theorem nt_then {α α' β β' : Type} {f : α → α'} {g : β → β'} {r : Res α} {r' : Res α'} {F : α → Nat → Res β} {F' : α' → Nat → Res β'} (h : Nt f r r') (k : ∀ x j, Nt g (F x j) (F' (f x) j)) : Nt g (r.then F) (r'.then F') := by
 cases r with
 | bot => cases h; exact rfl
 | fail j => cases h; exact rfl
 | ok x j => cases h; exact k x j
theorem nt_ite {α β : Type} {f : α → β} {c : Prop} [Decidable c] {a b : Res α} {a' b' : Res β} (h : Nt f a a') (k : Nt f b b') : Nt f (if c then a else b) (if c then a' else b') := by
 split
 ·exact h
 ·exact k
theorem nt_ok {α β : Type} {f : α → β} {x : α} {y : β} {k : Nat} (h : y = f x) : Nt f (.ok x k) (.ok y k) := by rw [h]; exact rfl
theorem nt_fail {α β : Type} {f : α → β} {k : Nat} : Nt f (.fail k) (.fail k) := rfl
theorem both_st (o : Nat) (x y : Ex) : stE (both o x y) = both o (stE x) (stE y) := by
 simp only [stE_eq (both o x y), both, stE_line]; rfl
theorem mona_st (o : Nat) (li : Int) (x : Ex) : stE (mona o li x) = mona o 0 (stE x) := by
 unfold mona; split
 ·rfl
 ·rw [stE_eq]; rfl
theorem aggr_st (li : Int) (az : List As) : stE (aggr li az) = aggr 0 (az.map stA) := by
 match az with
 | [] => rfl
 | [x] =>
  show stE (if x.c = [] then x.e else _) = if (stA x).c = [] then (stA x).e else _
  rw [stA_c, stA_e]
  by_cases c : x.c = []
  ·rw [if_pos c, if_pos (by rw [c]; rfl)]
  ·rw [if_neg c, if_neg (by simpa using c), stE_eq]; rfl
 | x :: y :: r => show stE (.mk 9 0 0 [] [] _ li 0 0) = _; rw [stE_eq]; rfl
structure PS.Nat (p q : PS) : Prop where
 expr : ∀ k, Nt stE (p.expr k) (q.expr k)
 rest : ∀ x k, Nt stE (p.rest x k) (q.rest (stE x) k)
 restL : ∀ o x k, Nt stE (p.restL o x k) (q.restL o (stE x) k)
 relation : ∀ x k, Nt stE (p.relation x k) (q.relation (stE x) k)
 simple : ∀ k, Nt stE (p.simple k) (q.simple k)
 addL : ∀ x k, Nt stE (p.addL x k) (q.addL (stE x) k)
 term : ∀ k, Nt stE (p.term k) (q.term k)
 mulL : ∀ x k, Nt stE (p.mulL x k) (q.mulL (stE x) k)
 factor : ∀ k, Nt stE (p.factor k) (q.factor k)
 primary : ∀ k, Nt stE (p.primary k) (q.primary k)
 paren : ∀ k, Nt stE (p.paren k) (q.paren k)
 assoc : ∀ k, Nt stA (p.assoc k) (q.assoc k)
 assocsL : ∀ a k, Nt (List.map stA) (p.assocsL a k) (q.assocsL (a.map stA) k)
 choice : ∀ k, Nt stC (p.choice k) (q.choice k)
 choicesL : ∀ a k, Nt (List.map stC) (p.choicesL a k) (q.choicesL (a.map stC) k)
 arg : ∀ k, Nt stA (p.arg k) (q.arg k)
 argsL : ∀ a k, Nt (List.map stA) (p.argsL a k) (q.argsL (a.map stA) k)
 name : ∀ k, Nt stE (p.name k) (q.name k)
 nameL : ∀ i x k, Nt stE (p.nameL i x k) (q.nameL 0 (stE x) k)
theorem inK_nat {p q : PS} (h : p.Nat q) (x : Ex) (kind : Int) (k : Nat) : Nt stE (inK l x kind k p) (inK (l.map stT) (stE x) kind k q) := by
 unfold inK;simp only [isW_st];refine nt_then (h.simple _) fun y j => ?_;simp only [named_st];exact nt_ite (nt_then (h.simple _) fun z i => nt_ok (by rw [stE_line, stE_eq (.mk _ _ _ _ _ _ _ _ _)]; rfl)) (nt_ite (nt_ok (by rw [stE_line, stE_eq (.mk _ _ _ _ _ _ _ _ _)]; rfl)) nt_fail)
theorem stepP_nat {p q : PS} (h : p.Nat q) : (stepP l p).Nat (stepP (l.map stT) q) where
 expr k := nt_then (h.simple k) fun x k => h.rest x k
 rest x k := nt_then (h.relation x k) fun x k => by simp only [opF_st]; exact h.restL _ x k
 restL o x k := by
  dsimp only [stepP]; simp only [opF_st]
  exact nt_ite (nt_ok rfl) (nt_ite (nt_ok rfl) (nt_then (h.simple _) fun y k => nt_then (h.relation y k) fun y k => by rw [← both_st]; exact h.restL _ _ k))
 relation x k := by
  dsimp only [stepP]; simp only [opF_st, isW_st]
  exact nt_ite (nt_then (h.simple _) fun y k => nt_ok (both_st _ _ _).symm) (nt_ite (inK_nat h _ _ _) (nt_ite (inK_nat h _ _ _) (nt_ok rfl)))
 simple k := by
  dsimp only [stepP]; simp only [opF_st, tk_st_line]
  exact nt_then (h.term _) fun x k' => by rw [← mona_st _ (tk l k).line]; exact h.addL _ _
 addL x k := by
  dsimp only [stepP]; simp only [opF_st]
  exact nt_ite (nt_ok rfl) (nt_then (h.term _) fun y k => by rw [← both_st]; exact h.addL _ _)
 term k := nt_then (h.factor k) fun x k => h.mulL x k
 mulL x k := by
  dsimp only [stepP]; simp only [opF_st]
  exact nt_ite (nt_ok rfl) (nt_then (h.factor _) fun y k => by rw [← both_st]; exact h.mulL _ _)
 factor k := by
  dsimp only [stepP]; simp only [opF_st, tk_st_line]
  exact nt_then (h.primary _) fun x k' => nt_ok (mona_st _ _ _).symm
 primary k := by
  dsimp only [stepP]; simp only [isW_st, tk_st_kind, tk_st_n, tk_st_line]
  exact nt_ite (nt_ok (by rw [stE_eq (.mk _ _ _ _ _ _ _ _ _)]; rfl)) (nt_ite (nt_ok (by rw [stE_eq (.mk _ _ _ _ _ _ _ _ _)]; rfl)) (nt_ite (h.paren k) (h.name k)))
 paren k := by
  dsimp only [stepP, must]; simp only [isW_st, tk_st_line]
  refine nt_ite (nt_ite (nt_then (h.expr _) fun a k => nt_ite (nt_then (h.expr _) fun b k => nt_ite (nt_then (h.expr _) fun c k => nt_ite (nt_ok (by rw [stE_eq (.mk _ _ _ _ _ _ _ _ _)]; rfl)) nt_fail) nt_fail) nt_fail) ?_) nt_fail
  exact nt_then (h.assoc _) fun a k => nt_then (h.assocsL [a] k) fun az k => nt_ite (nt_ok (aggr_st _ _).symm) nt_fail
 assoc k := by
  dsimp only [stepP, must]; simp only [isW_st]
  refine nt_then (h.choice k) fun c k => ?_
  rw [stC_kind, stC_l, getD_mapE]
  exact nt_ite (nt_ok (by rw [stA_eq (.mk _ _)]; rfl)) (nt_ite (nt_ite (nt_then (h.expr _) fun e k => nt_ok (by rw [stA_eq (.mk _ _)]; rfl)) nt_fail) (nt_then (h.choicesL [c] k) fun cs k => nt_ite (nt_then (h.expr _) fun e k => nt_ok (by rw [stA_eq (.mk _ _)]; rfl)) nt_fail))
 assocsL az k := by
  dsimp only [stepP]; simp only [isW_st]
  exact nt_ite (nt_then (h.assoc _) fun a k => by
   have := h.assocsL (az ++ [a]) k
   rw [List.map_append] at this; exact this) (nt_ok rfl)
 choice k := by
  dsimp only [stepP]; simp only [isW_st]
  exact nt_ite (nt_ok (by rw [stC_eq (.mk _ _)]; rfl)) (nt_then (h.simple k) fun x k => nt_ite (nt_then (h.simple _) fun y k => nt_ok (by rw [stC_eq (.mk _ _)]; rfl)) (nt_then (h.rest x k) fun y k => nt_ok (by rw [stC_eq (.mk _ _)]; rfl)))
 choicesL az k := by
  dsimp only [stepP]; simp only [isW_st]
  exact nt_ite (nt_then (h.choice _) fun a k => by
   have := h.choicesL (az ++ [a]) k
   rw [List.map_append] at this; exact this) (nt_ok rfl)
 arg k := by
  dsimp only [stepP]; simp only [isW_st, tk_st_kind, tk_st_text, tk_st_line]
  exact nt_ite (nt_then (h.expr _) fun e k => nt_ok (by rw [stA_eq (.mk _ _)]; rfl)) (nt_then (h.expr _) fun e k => nt_ok (by rw [stA_eq (.mk _ _)]; rfl))
 argsL az k := by
  dsimp only [stepP]; simp only [isW_st]
  exact nt_ite (nt_then (h.arg _) fun a k => by
   have := h.argsL (az ++ [a]) k
   rw [List.map_append] at this; exact this) (nt_ok rfl)
 name k := by
  dsimp only [stepP, takeN]; simp only [tk_st_kind, tk_st_text, tk_st_line]
  refine nt_ite ?_ nt_fail
  have := h.nameL (tk l k).line (.mk 3 0 0 (tk l k).text [] [] (tk l k).line 0 0) (k + 1)
  rw [stE_eq (.mk _ _ _ _ _ _ _ _ _)] at this
  exact this
 nameL i x k := by
  have hn : ∀ y z j, stE y = z → Nt stE (p.nameL i y j) (q.nameL 0 z j) := fun y z j e => by rw [← e]; exact h.nameL i y j
  dsimp only [stepP, takeN, must]; simp only [isW_st, tk_st_kind, tk_st_text]
  refine nt_ite (hn _ _ _ (by rw [stE_eq (.mk _ _ _ _ _ _ _ _ _)]; rfl)) (nt_ite (nt_ite (hn _ _ _ (by rw [stE_eq (.mk _ _ _ _ _ _ _ _ _)]; rfl)) nt_fail) (nt_ite ?_ (nt_ite ?_ (nt_ite (nt_ite (hn _ _ _ (by rw [stE_eq (.mk _ _ _ _ _ _ _ _ _)]; rfl)) nt_fail) (nt_ok rfl)))))
  ·exact nt_then (h.arg _) fun a k => nt_then (h.argsL [a] k) fun az k => nt_ite (hn _ _ _ (by rw [stE_eq (.mk _ _ _ _ _ _ _ _ _)]; rfl)) nt_fail
  ·exact nt_then (h.paren _) fun y k => hn _ _ _ (by rw [stE_eq (.mk _ _ _ _ _ _ _ _ _)]; rfl)
theorem P_nat : ∀ m, (P l m).Nat (P (l.map stT) m)
 | 0 => by constructor <;> intros <;> exact rfl
 | m + 1 => stepP_nat (P_nat m)
theorem Q_nat : (Q l).Nat (Q (l.map stT)) := by
 have := P_nat (l := l) (fuel l);rw [Q, Q, fuel, fuel, List.length_map]; exact this
end
end Go.Dl

-- Chapter 3: expressions: the plain laws, part 10: what reading asks of the first token, and of the one behind.
namespace Go.Dl
open Go
set_option maxRecDepth 10000
theorem then_assoc {α β γ : Type} (r : Res α) (f : α → Nat → Res β) (g : β → Nat → Res γ) : (r.then f).then g = r.then fun x k => (f x k).then g := by cases r <;> rfl
def w5 : List (List UInt8) := [wDot, wOpen, wTick]
def w3 : List (List UInt8) := w5 ++ [[42], [47], wMod, wRem]
def w2 : List (List UInt8) := w3 ++ [[43], [45]]
def w2d : List (List UInt8) := w2 ++ [wDots]
def w1 : List (List UInt8) := w2d ++ [[61], [47, 61], [60], [60, 61], [62], [62, 61], wIn, wNot]
def w0 : List (List UInt8) := w1 ++ [wAnd, wOr, wXor]
def nof (ws : List (List UInt8)) (t : Tok) : Prop := ∀ s ∈ ws, ¬ (t.kind = kindW s ∧ t.text = s)
instance (ws : List (List UInt8)) (t : Tok) : Decidable (nof ws t) := inferInstanceAs (Decidable (∀ s ∈ ws, ¬ (t.kind = kindW s ∧ t.text = s)))
theorem nof_sub {ws ws' : List (List UInt8)} {t : Tok} (h : nof ws t) (hs : ∀ s ∈ ws', s ∈ ws) : nof ws' t := fun s m => h s (hs s m)
class Rdr (l : outParam (List Tok)) (p : PS) : Prop where
 fix : p.Fix l
 adv : p.Adv l
instance (l : List Tok) : Rdr l (Q l) := ⟨Q_fix, Q_adv⟩
theorem nof_kind {ws : List (List UInt8)} {t : Tok} (h : t.kind = 1 ∨ t.kind = 3) : nof ws t := fun s _ e => by
 have := kind_word (s := s);rcases h with h | h
 ·rw [h] at e; exact this.1 e.1.symm
 ·rw [h] at e; exact this.2.1 e.1.symm
section
variable {l : List Tok} {k k' : Nat} {s : List UInt8}
theorem isW_cons_false {t : List UInt8} (h : isW l k [t] = false) (r : List (List UInt8)) : isW l k (t :: r) = false := by
 rw [isW1] at h;rw [isW, h]; rfl
theorem nof_isW {ws : List (List UInt8)} (h : nof ws (tk l k)) (hs : s ∈ ws) (r : List (List UInt8)) : isW l k (s :: r) = false := by
 refine isW_cons_false ?_ r;have := h s hs;rw [isW1];by_cases c1 : (tk l k).kind = kindW s
 ·by_cases c2 : (tk l k).text = s
  ·exact absurd ⟨c1, c2⟩ this
  ·rw [decide_eq_false c2, Bool.and_false]
 ·rw [decide_eq_false c1, Bool.false_and]
theorem opF_nof {ws : List (List UInt8)} {os : List Nat} {want : Nat} (h : nof ws (tk l k)) (ho : (os.all fun o => (wordsN o).head?.any fun s => decide (s ∈ ws)) = true) : opF l want k os = (0, k) := by
 refine opF_none fun o hm => ?_;have := List.all_eq_true.1 ho o hm;cases hw : wordsN o with
 | nil => rw [hw] at this; simp at this
 | cons s r =>
  rw [hw] at this;exact nof_isW h (by simpa using this) r
theorem word_kind (h : isW l k [s] = true) : (tk l k).kind ≠ 1 ∧ (tk l k).kind ≠ 3 ∧ k < l.length := by
 rw [isW1, Bool.and_eq_true, decide_eq_true_eq, decide_eq_true_eq] at h;rw [h.1];exact ⟨kind_word.1, kind_word.2.1, tk_lt (by rw [h.1]; exact kindW_ne s)⟩
theorem word_op {os : List Nat} {want : Nat} (h : isW l k [s] = true) (ho : (os.all fun o => (wordsN o).head?.any fun t => decide (s ≠ t)) = true) : opF l want k os = (0, k) := by
 refine opF_none fun o hm => ?_;have := List.all_eq_true.1 ho o hm;cases hw : wordsN o with
 | nil => rw [hw] at this; simp at this
 | cons t r =>
  rw [hw] at this;exact isW_cons_false (isW1_ne h (by simpa using this)) r
variable {p : PS} [hr : Rdr l p]
theorem q_expr (hk : k ≤ l.length) : p.expr k = (p.simple k).then fun x k => p.rest x k := hr.fix.expr k hk
theorem q_rest (x : Ex) (hk : k ≤ l.length) : p.rest x k = (p.relation x k).then fun x k => p.restL (opF l 0 k opsLog).1 x k := hr.fix.rest x k hk
theorem q_restL (o : Nat) (x : Ex) (hk : k ≤ l.length) : p.restL o x k = if o = 0 then .ok x k else if (opF l o k opsLog).1 = 0 then .ok x k else (p.simple (opF l o k opsLog).2).then fun y k => (p.relation y k).then fun y k => p.restL o (both o x y) k := hr.fix.restL o x k hk
theorem q_relation (x : Ex) (hk : k ≤ l.length) : p.relation x k = if (opF l 0 k opsRel).1 ≠ 0 then (p.simple (opF l 0 k opsRel).2).then fun y j => .ok (both (opF l 0 k opsRel).1 x y) j else if isW l k [wIn] then inK l x 13 (k + 1) p else if isW l k [wNot, wIn] then inK l x 14 (k + 2) p else .ok x k := hr.fix.relation x k hk
theorem q_simple (hk : k ≤ l.length) : p.simple k = (p.term (opF l 0 k opsSign).2).then fun x k' => p.addL (mona (opF l 0 k opsSign).1 (tk l k).line x) k' := hr.fix.simple k hk
theorem q_addL (x : Ex) (hk : k ≤ l.length) : p.addL x k = if (opF l 0 k opsAdd).1 = 0 then .ok x k else (p.term (opF l 0 k opsAdd).2).then fun y j => p.addL (both (opF l 0 k opsAdd).1 x y) j := hr.fix.addL x k hk
theorem q_term (hk : k ≤ l.length) : p.term k = (p.factor k).then fun x k => p.mulL x k := hr.fix.term k hk
theorem q_mulL (x : Ex) (hk : k ≤ l.length) : p.mulL x k = if (opF l 0 k opsMul).1 = 0 then .ok x k else (p.factor (opF l 0 k opsMul).2).then fun y j => p.mulL (both (opF l 0 k opsMul).1 x y) j := hr.fix.mulL x k hk
theorem q_factor (hk : k ≤ l.length) : p.factor k = (p.primary (opF l 0 k opsFac).2).then fun x k' => .ok (mona (opF l 0 k opsFac).1 (tk l k).line x) k' := hr.fix.factor k hk
theorem q_primary (hk : k ≤ l.length) : p.primary k = if (tk l k).kind = 3 then .ok (.mk 1 0 (tk l k).n [] [] [] (tk l k).line 0 0) (k + 1) else if isW l k [wNull] then .ok (.mk 2 0 0 [] [] [] (tk l k).line 0 0) (k + 1) else if isW l k [wOpen] then p.paren k else p.name k := hr.fix.primary k hk
theorem q_paren (hk : k ≤ l.length) : p.paren k = must l wOpen k fun k1 =>
  if isW l k1 [wIf] then (p.expr (k1 + 1)).then fun a k => must l wThen k fun k => (p.expr k).then fun b k => must l wElse k fun k => (p.expr k).then fun c k' => must l wShut k' fun k' => .ok (.mk 10 0 0 [] [a, b, c] [] (tk l (k1 - 1)).line 0 0) k'
  else (p.assoc k1).then fun a k => (p.assocsL [a] k).then fun az k => must l wShut k fun k => .ok (aggr (tk l (k1 - 1)).line az) k := hr.fix.paren k hk
theorem q_assoc (hk : k ≤ l.length) : p.assoc k = (p.choice k).then fun c k =>
  if c.kind = 1 ∧ isW l k [wBar] = false ∧ isW l k [wArrow] = false then .ok (.mk [] (c.l.getD 0 ex0)) k
  else if c.kind = 3 then must l wArrow k fun k => (p.expr k).then fun e k => .ok (.mk [c] e) k
  else (p.choicesL [c] k).then fun cs k => must l wArrow k fun k => (p.expr k).then fun e k => .ok (.mk cs e) k := hr.fix.assoc k hk
theorem q_assocsL (az : List As) (hk : k ≤ l.length) : p.assocsL az k = if isW l k [wComma] then (p.assoc (k + 1)).then fun a k => p.assocsL (az ++ [a]) k else .ok az k := hr.fix.assocsL az k hk
theorem q_choice (hk : k ≤ l.length) : p.choice k = if isW l k [wOthers] then .ok (.mk 3 []) (k + 1) else
  (p.simple k).then fun x k => if isW l k [wDots] then (p.simple (k + 1)).then fun y k => .ok (.mk 2 [x, y]) k
   else (p.rest x k).then fun x k => .ok (.mk 1 [x]) k := hr.fix.choice k hk
theorem q_choicesL (cs : List Ch) (hk : k ≤ l.length) : p.choicesL cs k = if isW l k [wBar] then (p.choice (k + 1)).then fun c k => p.choicesL (cs ++ [c]) k else .ok cs k := hr.fix.choicesL cs k hk
theorem q_arg (hk : k ≤ l.length) : p.arg k = if (tk l k).kind = 1 ∧ isW l (k + 1) [wArrow] = true then (p.expr (k + 2)).then fun e k' => .ok (.mk [.mk 1 [.mk 3 0 0 (tk l k).text [] [] (tk l k).line 0 0]] e) k'
  else (p.expr k).then fun e k => .ok (.mk [] e) k := hr.fix.arg k hk
theorem q_argsL (az : List As) (hk : k ≤ l.length) : p.argsL az k = if isW l k [wComma] then (p.arg (k + 1)).then fun a k => p.argsL (az ++ [a]) k else .ok az k := hr.fix.argsL az k hk
theorem q_name (hk : k ≤ l.length) : p.name k = takeN l k fun s k1 => p.nameL (tk l k).line (.mk 3 0 0 s [] [] (tk l k).line 0 0) k1 := hr.fix.name k hk
theorem q_nameL (line : Int) (x : Ex) (hk : k ≤ l.length) : p.nameL line x k = if isW l k [wDot, wAll] then p.nameL line (.mk 5 0 0 [] [x] [] line 0 0) (k + 2)
  else if isW l k [wDot] then takeN l (k + 1) fun s k => p.nameL line (.mk 4 0 0 s [x] [] line 0 0) k
  else if isW l k [wOpen] then (p.arg (k + 1)).then fun a k => (p.argsL [a] k).then fun az k => must l wShut k fun k => p.nameL line (.mk 7 0 0 [] [x] az line 0 0) k
  else if isW l k [wTick, wOpen] then (p.paren (k + 1)).then fun y k => p.nameL line (.mk 8 0 0 [] [x, y] [] line 0 0) k
  else if isW l k [wTick] then takeN l (k + 1) fun s k => p.nameL line (.mk 6 0 0 s [x] [] line 0 0) k
  else .ok x k := hr.fix.nameL line x k hk
def startW : List (List UInt8) := [wNull, wOpen, wAbs, wNot, [43], [45]]
theorem prim_word (h : isW l k [s] = true) (h1 : s ≠ wNull) (h2 : s ≠ wOpen) : p.primary k = .fail k := by
 obtain ⟨a, b, c⟩ := word_kind h;have hk : k ≤ l.length := by omega
 rw [q_primary hk, if_neg b, isW1_ne h h1, isW1_ne h h2, if_neg (by simp), if_neg (by simp), q_name hk, takeN, if_neg a]
theorem fac_word (h : isW l k [s] = true) (h1 : s ≠ wNull) (h2 : s ≠ wOpen) (h3 : s ≠ wAbs) (h4 : s ≠ wNot) : p.factor k = .fail k := by
 obtain ⟨a, b, c⟩ := word_kind h;have hk : k ≤ l.length := by omega
 rw [q_factor hk, word_op h (by simp [opsFac, show wordsN 21 = [wNot] from rfl, show wordsN 20 = [wAbs] from rfl, h3, h4]), prim_word h h1 h2]; rfl
theorem term_word (h : isW l k [s] = true) (h1 : s ≠ wNull) (h2 : s ≠ wOpen) (h3 : s ≠ wAbs) (h4 : s ≠ wNot) : p.term k = .fail k := by
 obtain ⟨a, b, c⟩ := word_kind h;rw [q_term (by omega), fac_word h h1 h2 h3 h4]; rfl
theorem simple_word (h : isW l k [s] = true) (hs : s ∉ startW) : p.simple k = .fail k := by
 simp only [startW, List.mem_cons, List.not_mem_nil, or_false, not_or] at hs;obtain ⟨h1, h2, h3, h4, h5, h6⟩ := hs;obtain ⟨a, b, c⟩ := word_kind h;rw [q_simple (by omega), word_op h (by simp [opsSign, show wordsN 19 = [[45]] from rfl, show wordsN 18 = [[43]] from rfl, h5, h6]), term_word h h1 h2 h3 h4]; rfl
theorem expr_word (h : isW l k [s] = true) (hs : s ∉ startW) : p.expr k = .fail k := by
 obtain ⟨a, b, c⟩ := word_kind h;rw [q_expr (by omega), simple_word h hs]; rfl
theorem simple_no {y : Ex} (h : p.simple k = .ok y k') (hs : s ∉ startW) : isW l k [s] = false := by
 cases c : isW l k [s] with
 | false => rfl
 | true => rw [simple_word c hs] at h; cases h
theorem expr_no {y : Ex} (h : p.expr k = .ok y k') (hs : s ∉ startW) : isW l k [s] = false := by
 cases c : isW l k [s] with
 | false => rfl
 | true => rw [expr_word c hs] at h; cases h
theorem name_stop {i : Int} {x : Ex} (hk : k ≤ l.length) (h : nof w5 (tk l k)) : p.nameL i x k = .ok x k := by
 rw [q_nameL i x hk, nof_isW h (by decide), nof_isW h (by decide), nof_isW h (by decide), nof_isW h (by decide), nof_isW h (by decide)]; rfl
theorem mulL_stop {x : Ex} (hk : k ≤ l.length) (h : nof w3 (tk l k)) : p.mulL x k = .ok x k := by
 rw [q_mulL x hk, opF_nof h (by decide)]; rfl
theorem addL_stop {x : Ex} (hk : k ≤ l.length) (h : nof w2 (tk l k)) : p.addL x k = .ok x k := by
 rw [q_addL x hk, opF_nof h (by decide)]; rfl
theorem rel_stop {x : Ex} (hk : k ≤ l.length) (h : nof w1 (tk l k)) : p.relation x k = .ok x k := by
 rw [q_relation x hk, opF_nof h (by decide), nof_isW h (by decide), nof_isW h (by decide)]; rfl
theorem restL_none {x : Ex} (hk : k ≤ l.length) : p.restL 0 x k = .ok x k := by rw [q_restL 0 x hk]; rfl
theorem restL_stop {o : Nat} {x : Ex} (hk : k ≤ l.length) (h : nof w0 (tk l k)) : p.restL o x k = .ok x k := by
 rw [q_restL o x hk, opF_nof h (by decide)]; simp
theorem fac_of_prim {x : Ex} (hk : k ≤ l.length) (h : p.primary k = .ok x k') : p.factor k = .ok x k' := by
 by_cases c : (opF l 0 k opsFac).1 = 0
 ·have := (opF_adv (want := 0) ops_ok.2.2.2.2.2 hk).1 c;rw [q_factor hk, c, this, h]; rfl
 ·exfalso;obtain ⟨h1, h2, h3⟩ := opF_mem c;rcases fac_mem h1 with e | e
  ·rw [e] at h3;rw [prim_word (s := wAbs) h3 (by decide) (by decide)] at h; cases h
  ·rw [e] at h3;rw [prim_word (s := wNot) h3 (by decide) (by decide)] at h; cases h
theorem term_of_fac {x : Ex} (hk : k ≤ l.length) (h : p.factor k = .ok x k') : p.term k = p.mulL x k' := by rw [q_term hk, h]; rfl
theorem simp_of_term {x : Ex} (hk : k ≤ l.length) (hk' : k' ≤ l.length) (h : p.term k = p.mulL x k') (hn : nof w3 (tk l k')) : p.simple k = p.addL x k' := by
 rw [mulL_stop hk' hn] at h;by_cases c : (opF l 0 k opsSign).1 = 0
 ·have := (opF_adv (want := 0) ops_ok.2.2.1 hk).1 c;rw [q_simple hk, c, this, h]; rfl
 ·exfalso;obtain ⟨h1, h2, h3⟩ := opF_mem c;rcases sign_mem h1 with e | e
  ·rw [e] at h3;rw [term_word (s := [43]) h3 (by decide) (by decide) (by decide) (by decide)] at h; cases h
  ·rw [e] at h3;rw [term_word (s := [45]) h3 (by decide) (by decide) (by decide) (by decide)] at h; cases h
def relQ (p : PS) (k : Nat) : Res Ex := (p.simple k).then fun x k => p.relation x k
theorem rel_of_simp {x : Ex} (hk' : k' ≤ l.length) (h : p.simple k = p.addL x k') (hn : nof w1 (tk l k')) : relQ p k = .ok x k' := by
 rw [relQ, h, addL_stop hk' (nof_sub hn (by decide))];exact rel_stop hk' hn
theorem expr_rel (hk : k ≤ l.length) : p.expr k = (relQ p k).then fun x k => p.restL (opF l 0 k opsLog).1 x k := by
 rw [q_expr hk, relQ, then_assoc];have ha := hr.adv.simple k hk;cases c : p.simple k with
 | bot => rfl
 | fail j => rfl
 | ok x j =>
  rw [c] at ha;exact q_rest x ha.2
theorem dots_rest {x y : Ex} {j : Nat} (hj : j ≤ l.length) (hd : isW l j [wDots] = true) (h : p.rest x j = .ok y k') : k' = j := by
 have e1 : opF l 0 j opsRel = (0, j) := word_op hd (by decide);have e2 : opF l 0 j opsLog = (0, j) := word_op hd (by decide);have e3 : isW l j [wIn] = false := isW1_ne hd (by decide);have e4 : isW l j [wNot, wIn] = false := isW_cons_false (isW1_ne hd (by decide)) _;have e5 : p.relation x j = .ok x j := by rw [q_relation x hj, e1, e3, e4]; rfl
 rw [q_rest x hj, e5] at h;change p.restL (opF l 0 j opsLog).1 x j = _ at h;rw [e2, restL_none hj] at h;cases h; rfl
theorem choice_expr {y : Ex} (hk : k ≤ l.length) (h : p.expr k = .ok y k') (hd : isW l k' [wDots] = false) : p.choice k = .ok (.mk 1 [y]) k' := by
 rw [q_choice hk, expr_no h (s := wOthers) (by decide)];rw [q_expr hk] at h;have ha := hr.adv.simple k hk;cases c : p.simple k with
 | bot => rw [c] at h; cases h
 | fail j => rw [c] at h; cases h
 | ok x j =>
  rw [c] at h ha;change p.rest x j = _ at h;show (if isW l j [wDots] then _ else _) = _;cases cd : isW l j [wDots] with
  | true => rw [dots_rest ha.2 cd h, cd] at hd; cases hd
  | false =>
   show (p.rest x j).then _ = _
   rw [h]; rfl
theorem assoc_expr {y : Ex} (hk : k ≤ l.length) (h : p.expr k = .ok y k') (hd : isW l k' [wDots] = false) (hb : isW l k' [wBar] = false) (ha : isW l k' [wArrow] = false) : p.assoc k = .ok (.mk [] y) k' := by
 rw [q_assoc hk, choice_expr hk h hd];show (if _ then _ else _) = _;rw [if_pos ⟨rfl, hb, ha⟩]; rfl
theorem assoc_no {x : As} (h : p.assoc k = .ok x k') (hs : s ∉ startW) (ho : s ≠ wOthers) : isW l k [s] = false := by
 cases c : isW l k [s] with
 | false => rfl
 | true =>
  have hk : k ≤ l.length := by have := (word_kind c).2.2; omega
  rw [q_assoc hk, q_choice hk, isW1_ne c ho, simple_word c hs] at h;cases h
theorem paren_assocs {a : As} {az : List As} {j j' : Nat} (h0 : isW l k [wOpen] = true) (h1 : p.assoc (k + 1) = .ok a j) (h2 : p.assocsL [a] j = .ok az j') (h3 : isW l j' [wShut] = true) : p.paren k = .ok (aggr (tk l k).line az) (j' + 1) := by
 have hk : k ≤ l.length := by have := (word_kind h0).2.2; omega
 rw [q_paren hk, must, if_pos h0, assoc_no h1 (s := wIf) (by decide) (by decide), if_neg (by simp), h1];show (p.assocsL [a] j).then _ = _
 rw [h2];show must l wShut j' _ = _;rw [must, if_pos h3, Nat.add_sub_cancel]
theorem shut_no (h : isW l k [wShut] = true) : isW l k [wDots] = false ∧ isW l k [wBar] = false ∧ isW l k [wArrow] = false ∧ isW l k [wComma] = false := ⟨isW1_ne h (by decide), isW1_ne h (by decide), isW1_ne h (by decide), isW1_ne h (by decide)⟩
theorem paren_expr {y : Ex} (h0 : isW l k [wOpen] = true) (h1 : p.expr (k + 1) = .ok y k') (h3 : isW l k' [wShut] = true) : p.paren k = .ok y (k' + 1) := by
 obtain ⟨a, b, c, d⟩ := shut_no h3;have hk : k < l.length := (word_kind h0).2.2;have hk' : k' < l.length := (word_kind h3).2.2;rw [paren_assocs (a := .mk [] y) (az := [.mk [] y]) h0 (assoc_expr (by omega) h1 a b c) (by rw [q_assocsL _ (by omega), d]; rfl) h3]; rfl
theorem prim_paren (h0 : isW l k [wOpen] = true) : p.primary k = p.paren k := by
 obtain ⟨a, b, c⟩ := word_kind h0;rw [q_primary (by omega), if_neg b, isW1_ne h0 (t := wNull) (by decide), h0]; rfl
theorem prim_name (hk : k ≤ l.length) (h : (tk l k).kind = 1) : p.primary k = p.name k := by
 have hn : nof [wNull, wOpen] (tk l k) := nof_kind (.inl h);rw [q_primary hk, if_neg (by rw [h]; decide), nof_isW hn (by decide), nof_isW hn (by decide)]; rfl
theorem arrow_expr {y : Ex} (h : p.expr k = .ok y k') (h1 : (tk l k).kind = 1) (h2 : isW l (k + 1) [wArrow] = true) : k' = k + 1 := by
 have hk : k < l.length := tk_lt (by rw [h1]; decide);have hn : ∀ ws, (∀ s ∈ ws, s ≠ wArrow) → nof ws (tk l (k + 1)) := fun ws hs s hm ⟨e1, e2⟩ => by
  rw [isW1, Bool.and_eq_true, decide_eq_true_eq, decide_eq_true_eq] at h2;exact hs s hm (e2.symm.trans h2.2)
 have hp : p.primary k = .ok (.mk 3 0 0 (tk l k).text [] [] (tk l k).line 0 0) (k + 1) := by
  rw [prim_name (by omega) h1, q_name (by omega), takeN, if_pos h1, name_stop (by omega) (hn _ (by decide))]
 have hr := rel_of_simp (by omega) (simp_of_term (by omega) (by omega) (term_of_fac (by omega) (fac_of_prim (by omega) hp)) (hn _ (by decide))) (hn _ (by decide));rw [expr_rel (by omega), hr] at h;change p.restL _ _ (k + 1) = _ at h;rw [restL_stop (by omega) (hn _ (by decide))] at h;cases h; rfl
theorem arg_expr {y : Ex} (hk : k ≤ l.length) (h : p.expr k = .ok y k') (ha : isW l k' [wArrow] = false) : p.arg k = .ok (.mk [] y) k' := by
 rw [q_arg hk, if_neg, h]
 ·rfl
 ·rintro ⟨h1, h2⟩;rw [arrow_expr h h1 h2, h2] at ha; cases ha
end
end Go.Dl

-- Chapter 3: expressions: the plain laws, part 11: reading the tokens of an expression.
namespace Go.Dl
open Go
set_option maxRecDepth 10000
def At (l : List Tok) (k : Nat) (ts : List Tok) : Prop := k ≤ l.length ∧ ts <+: l.drop k
section
variable {l : List Tok} {k k' : Nat} {s : List UInt8} {p : PS} [hr : Rdr l p]
theorem At.le {ts : List Tok} (h : At l k ts) : k + ts.length ≤ l.length := by
 have := h.2.length_le;rw [List.length_drop] at this;have := h.1; omega
theorem At.left {a b : List Tok} (h : At l k (a ++ b)) : At l k a := ⟨h.1, (List.prefix_append a b).trans h.2⟩
theorem At.right {a b : List Tok} (h : At l k (a ++ b)) : At l (k + a.length) b := by
 obtain ⟨r, hr⟩ := h.2;have := h.le;rw [List.length_append] at this;refine ⟨by omega, r, ?_⟩;rw [← List.drop_drop, ← hr, List.append_assoc, List.drop_left]
theorem At.head {t : Tok} {ts : List Tok} (h : At l k (t :: ts)) : tk l k = t ∧ k < l.length := by
 obtain ⟨r, hr⟩ := h.2;have hl := h.le;rw [List.length_cons] at hl;have hk : k < l.length := by omega
 refine ⟨?_, hk⟩;have : (l.drop k)[0]? = some t := by rw [← hr]; rfl
 rw [List.getElem?_drop, Nat.add_zero] at this;rw [tk, List.getD, this]; rfl
theorem At.tail {t : Tok} {ts : List Tok} (h : At l k (t :: ts)) : At l (k + 1) ts := At.right (a := [t]) h
theorem At.word {ts : List Tok} (h : At l k (wTok s :: ts)) : isW l k [s] = true := by
 rw [isW1, h.head.1]; simp [wTok]
theorem At.words : ∀ {ws : List (List UInt8)} {k : Nat} {ts : List Tok}, At l k (ws.map wTok ++ ts) → isW l k ws = true
 | [], _, _, _ => rfl
 | s :: r, k, ts, h => by
  have h1 := At.word (s := s) h;have h2 := At.words (ws := r) (At.tail h);rw [isW1] at h1;rw [isW, h1, h2]; rfl
theorem opF_is {want o : Nat} (hw : isW l k (wordsN o) = true) (hwant : want = 0 ∨ want = o) : ∀ {pre post : List Nat}, (∀ p ∈ pre, isW l k (wordsN p) = false) → opF l want k (pre ++ o :: post) = (o, k + (wordsN o).length)
 | [], post, _ => by
  rw [List.nil_append, opF, if_pos hw, if_neg];rintro ⟨h1, h2⟩;rcases hwant with h | h
  ·exact h1 h
  ·exact h2 h.symm
 | p :: pre, post, h => by
  rw [List.cons_append, opF, h p (by simp)];exact opF_is hw hwant fun q hq => h q (by simp [hq])
theorem words_false {o : Nat} {s t : List UInt8} {r : List (List UInt8)} (h : isW l k [s] = true) (e : wordsN o = t :: r) (hs : s ≠ t) : isW l k (wordsN o) = false := by
 rw [e]; exact isW_cons_false (isW1_ne h hs) r
theorem op_at {want o : Nat} {os : List Nat} {ts : List Tok} (ho : (o ∈ opsRel ∧ os = opsRel) ∨ (o ∈ opsSign ∧ os = opsSign) ∨ (o ∈ opsAdd ∧ os = opsAdd) ∨ (o ∈ opsMul ∧ os = opsMul) ∨ (o ∈ opsFac ∧ os = opsFac))
  (h : At l k ((wordsN o).map wTok ++ ts)) (hwant : want = 0 ∨ want = o) : opF l want k os = (o, k + (wordsN o).length) ∧ (wordsN o).length = 1 := by
 have hw := At.words h;have key : ∀ (pre post : List Nat) (s : List UInt8), os = pre ++ o :: post → wordsN o = [s] → (pre.all fun p => (wordsN p).head?.any fun t => decide (s ≠ t)) = true → opF l want k os = (o, k + (wordsN o).length) ∧ (wordsN o).length = 1 := fun pre post s e1 e2 e3 => by
  rw [e1];refine ⟨opF_is hw hwant fun p hp => ?_, by rw [e2]; rfl⟩;have := List.all_eq_true.1 e3 p hp;rw [e2] at hw;cases hp2 : wordsN p with
  | nil => rw [hp2] at this; simp at this
  | cons t r =>
   rw [hp2] at this;exact isW_cons_false (isW1_ne hw (by simpa using this)) r
 rcases ho with ⟨h1, rfl⟩ | ⟨h1, rfl⟩ | ⟨h1, rfl⟩ | ⟨h1, rfl⟩ | ⟨h1, rfl⟩
 ·simp only [opsRel, List.mem_cons, List.not_mem_nil, or_false] at h1;rcases h1 with rfl | rfl | rfl | rfl | rfl | rfl
  ·exact key [] [11, 10, 9, 8, 7] _ rfl rfl (by decide)
  ·exact key [12] [10, 9, 8, 7] _ rfl rfl (by decide)
  ·exact key [12, 11] [9, 8, 7] _ rfl rfl (by decide)
  ·exact key [12, 11, 10] [8, 7] _ rfl rfl (by decide)
  ·exact key [12, 11, 10, 9] [7] _ rfl rfl (by decide)
  ·exact key [12, 11, 10, 9, 8] [] _ rfl rfl (by decide)
 ·simp only [opsSign, List.mem_cons, List.not_mem_nil, or_false] at h1;rcases h1 with rfl | rfl
  ·exact key [] [18] _ rfl rfl (by decide)
  ·exact key [19] [] _ rfl rfl (by decide)
 ·simp only [opsAdd, List.mem_cons, List.not_mem_nil, or_false] at h1;rcases h1 with rfl | rfl
  ·exact key [] [1] _ rfl rfl (by decide)
  ·exact key [2] [] _ rfl rfl (by decide)
 ·simp only [opsMul, List.mem_cons, List.not_mem_nil, or_false] at h1;rcases h1 with rfl | rfl | rfl | rfl
  ·exact key [] [5, 4, 3] _ rfl rfl (by decide)
  ·exact key [6] [4, 3] _ rfl rfl (by decide)
  ·exact key [6, 5] [3] _ rfl rfl (by decide)
  ·exact key [6, 5, 4] [] _ rfl rfl (by decide)
 ·simp only [opsFac, List.mem_cons, List.not_mem_nil, or_false] at h1;rcases h1 with rfl | rfl
  ·exact key [] [20] _ rfl rfl (by decide)
  ·exact key [21] [] _ rfl rfl (by decide)
theorem op_log {want o : Nat} {ts : List Tok} {y : Ex} {j : Nat} (ho : o ∈ opsLog) (h : At l k ((wordsN o).map wTok ++ ts)) (hwant : want = 0 ∨ want = o) (hs : p.simple (k + (wordsN o).length) = .ok y j) : opF l want k opsLog = (o, k + (wordsN o).length) := by
 have hw := At.words h;simp only [opsLog, List.mem_cons, List.not_mem_nil, or_false] at ho;rcases ho with rfl | rfl | rfl | rfl | rfl
 ·exact opF_is hw hwant (pre := []) (post := [16, 15, 14, 13]) (by simp)
 ·have h1 : isW l k [wAnd] = true := isW_head hw rfl;refine opF_is hw hwant (pre := [17]) (post := [15, 14, 13]) fun p hp => ?_;simp only [List.mem_cons, List.not_mem_nil, or_false] at hp;subst hp;exact words_false h1 rfl (by decide)
 ·refine opF_is hw hwant (pre := [17, 16]) (post := [14, 13]) fun p hp => ?_;simp only [List.mem_cons, List.not_mem_nil, or_false] at hp;rcases hp with rfl | rfl
  ·exact words_false (s := wXor) hw rfl (by decide)
  ·exact words_false (s := wXor) hw rfl (by decide)
 ·have h3 : isW l (k + 1) [wElse] = false := simple_no hs (by decide);refine opF_is hw hwant (pre := [17, 16, 15]) (post := [13]) fun p hp => ?_;simp only [List.mem_cons, List.not_mem_nil, or_false] at hp;rcases hp with rfl | rfl | rfl
  ·show isW l k [wOr, wElse] = false;rw [isW2, h3, Bool.and_false]
  ·exact words_false (s := wOr) hw rfl (by decide)
  ·exact words_false (s := wOr) hw rfl (by decide)
 ·have h3 : isW l (k + 1) [wThen] = false := simple_no hs (by decide);refine opF_is hw hwant (pre := [17, 16, 15, 14]) (post := []) fun p hp => ?_;simp only [List.mem_cons, List.not_mem_nil, or_false] at hp;rcases hp with rfl | rfl | rfl | rfl
  ·exact words_false (s := wAnd) hw rfl (by decide)
  ·show isW l k [wAnd, wThen] = false;rw [isW2, h3, Bool.and_false]
  ·exact words_false (s := wAnd) hw rfl (by decide)
  ·exact words_false (s := wAnd) hw rfl (by decide)
theorem lv5 {e : Ex} (h : 1 ≤ e.kind ∧ e.kind ≤ 10) : levelE e = 5 := by unfold levelE; rw [if_neg (by omega), if_neg (by omega), if_neg (by omega)]
theorem bare_not {e : Ex} {n : Int} (h : levelE e = n) (hn : n ≠ 5) : bareK e.kind = true → False := fun c => hn (h.symm.trans (lv5 (by rw [bareK, Bool.or_eq_true, decide_eq_true_eq, decide_eq_true_eq] at c; omega)))
structure Rd (l : List Tok) (p : PS) (e : Ex) (k k' : Nat) : Prop where
 le : k ≤ l.length ∧ k' ≤ l.length
 name : namedE e = true → p.name k = p.nameL 0 (stE e) k'
 bare : bareK e.kind = true → p.paren k = .ok (stE e) k'
 prim : levelE e = 5 → nof w5 (tk l k') → p.primary k = .ok (stE e) k'
 fac : 4 ≤ levelE e → nof w5 (tk l k') → p.factor k = .ok (stE e) k'
 term : 3 ≤ levelE e → nof w5 (tk l k') → p.term k = p.mulL (stE e) k'
 simp : 2 ≤ levelE e → nof w3 (tk l k') → p.simple k = p.addL (stE e) k'
 rel : 1 ≤ levelE e → nof w2d (tk l k') → (levelE e ≠ 1 → nof w1 (tk l k')) → relQ p k = .ok (stE e) k'
 exp : levelE e = 0 → nof w1 (tk l k') → p.expr k = p.restL e.oper.toNat (stE e) k'
theorem s53 {t : Tok} (h : nof w3 t) : nof w5 t := nof_sub h (by decide)
theorem s31 {t : Tok} (h : nof w1 t) : nof w3 t := nof_sub h (by decide)
theorem s32 {t : Tok} (h : nof w2 t) : nof w3 t := nof_sub h (by decide)
theorem s2d {t : Tok} (h : nof w2d t) : nof w2 t := nof_sub h (by decide)
theorem sd1 {t : Tok} (h : nof w1 t) : nof w2d t := nof_sub h (by decide)
theorem s10 {t : Tok} (h : nof w0 t) : nof w1 t := nof_sub h (by decide)
theorem named_not {e : Ex} {n : Int} (h : levelE e = n) (hn : n ≠ 5) : namedE e = true → False := fun c => hn (h.symm.trans (named_level c))
theorem Rd.of1 {e : Ex} (hk : k ≤ l.length ∧ k' ≤ l.length) (hl : levelE e = 1) (h : nof w2d (tk l k') → relQ p k = .ok (stE e) k') : Rd l p e k k' :=
 ⟨hk, fun c => (named_not hl (by decide) c).elim, fun c => (bare_not hl (by decide) c).elim, fun c => by omega, fun c => by omega, fun c => by omega, fun c => by omega, fun _ a _ => h a, fun c => by omega⟩
theorem Rd.of0 {e : Ex} (hk : k ≤ l.length ∧ k' ≤ l.length) (hl : levelE e = 0) (h : nof w1 (tk l k') → p.expr k = p.restL e.oper.toNat (stE e) k') : Rd l p e k k' :=
 ⟨hk, fun c => (named_not hl (by decide) c).elim, fun c => (bare_not hl (by decide) c).elim, fun c => by omega, fun c => by omega, fun c => by omega, fun c => by omega, fun c => by omega, fun _ => h⟩
theorem Rd.of2 {e : Ex} (hk : k ≤ l.length ∧ k' ≤ l.length) (hl : levelE e = 2) (h : nof w3 (tk l k') → p.simple k = p.addL (stE e) k') : Rd l p e k k' :=
 ⟨hk, fun c => (named_not hl (by decide) c).elim, fun c => (bare_not hl (by decide) c).elim, fun c => by omega, fun c => by omega, fun c => by omega, fun _ => h, fun _ _ a => rel_of_simp hk.2 (h (s31 (a (by omega)))) (a (by omega)), fun c => by omega⟩
theorem Rd.of3 {e : Ex} (hk : k ≤ l.length ∧ k' ≤ l.length) (hl : levelE e = 3) (h : nof w5 (tk l k') → p.term k = p.mulL (stE e) k') : Rd l p e k k' :=
 have h2 : nof w3 (tk l k') → p.simple k = p.addL (stE e) k' := fun a => simp_of_term hk.1 hk.2 (h (s53 a)) a
 ⟨hk, fun c => (named_not hl (by decide) c).elim, fun c => (bare_not hl (by decide) c).elim, fun c => by omega, fun c => by omega, fun _ => h, fun _ => h2, fun _ _ a => rel_of_simp hk.2 (h2 (s31 (a (by omega)))) (a (by omega)), fun c => by omega⟩
theorem Rd.of4 {e : Ex} (hk : k ≤ l.length ∧ k' ≤ l.length) (hl : levelE e = 4) (h : nof w5 (tk l k') → p.factor k = .ok (stE e) k') : Rd l p e k k' :=
 have h3 : nof w5 (tk l k') → p.term k = p.mulL (stE e) k' := fun a => term_of_fac hk.1 (h a)
 have h2 : nof w3 (tk l k') → p.simple k = p.addL (stE e) k' := fun a => simp_of_term hk.1 hk.2 (h3 (s53 a)) a
 ⟨hk, fun c => (named_not hl (by decide) c).elim, fun c => (bare_not hl (by decide) c).elim, fun c => by omega, fun _ => h, fun _ => h3, fun _ => h2, fun _ _ a => rel_of_simp hk.2 (h2 (s31 (a (by omega)))) (a (by omega)), fun c => by omega⟩
theorem Rd.of5 {e : Ex} (hk : k ≤ l.length ∧ k' ≤ l.length) (hl : levelE e = 5) (hn : namedE e = true → p.name k = p.nameL 0 (stE e) k') (hb : bareK e.kind = true → p.paren k = .ok (stE e) k') (h : nof w5 (tk l k') → p.primary k = .ok (stE e) k') : Rd l p e k k' :=
 have h4 : nof w5 (tk l k') → p.factor k = .ok (stE e) k' := fun a => fac_of_prim hk.1 (h a)
 have h3 : nof w5 (tk l k') → p.term k = p.mulL (stE e) k' := fun a => term_of_fac hk.1 (h4 a)
 have h2 : nof w3 (tk l k') → p.simple k = p.addL (stE e) k' := fun a => simp_of_term hk.1 hk.2 (h3 (s53 a)) a
 ⟨hk, hn, hb, fun _ => h, fun _ => h4, fun _ => h3, fun _ => h2, fun _ _ a => rel_of_simp hk.2 (h2 (s31 (a (by omega)))) (a (by omega)), fun c => by omega⟩
theorem Rd.ofName {e : Ex} (hk : k ≤ l.length ∧ k' ≤ l.length) (hl : namedE e = true) (hn : p.name k = p.nameL 0 (stE e) k') : Rd l p e k k' :=
 .of5 hk (named_level hl) (fun _ => hn) (fun c => by
  rw [bareK, Bool.or_eq_true, decide_eq_true_eq, decide_eq_true_eq] at c;rw [namedE, Bool.and_eq_true, decide_eq_true_eq, decide_eq_true_eq] at hl; omega) fun a => by
  rw [name_stop hk.2 a] at hn;have : (tk l k).kind = 1 := by
   rw [q_name hk.1, takeN] at hn;split at hn
   ·assumption
   ·cases hn
  rw [prim_name hk.1 this, hn]
theorem Rd.full {e : Ex} (r : Rd l p e k k') (h : nof w0 (tk l k')) : p.expr k = .ok (stE e) k' := by
 have hg := (level_ge e).1;by_cases c : levelE e = 0
 ·rw [r.exp c (s10 h), restL_stop r.le.2 h]
 ·rw [expr_rel r.le.1, r.rel (by omega) (sd1 (s10 h)) fun _ => s10 h];exact restL_stop r.le.2 h
def RT (l : List Tok) (p : PS) (e : Ex) : Prop := ∀ k, At l k (toksE e) → Rd l p e k (k + (toksE e).length)
theorem partE_at {e : Ex} {lv : Int} (R : RT l p e) (h : At l k (partE e lv)) (hk' : k' = k + (partE e lv).length) : (levelE e < lv ∧ p.primary k = .ok (stE e) k') ∨ (lv ≤ levelE e ∧ Rd l p e k k') := by
 subst hk';unfold partE at h ⊢
 by_cases c : levelE e < lv
 ·refine .inl ⟨c, ?_⟩;rw [decide_eq_true c] at h ⊢
  have h1 : At l (k + 1) (toksE e ++ [wTok wShut]) := At.tail h;have h2 := h1.right;have hs := At.word h2;have r := R _ h1.left;have he := r.full (by rw [h2.head.1]; decide +kernel);rw [prim_paren (At.word h), paren_expr (At.word h) he hs];simp only [parT, if_true, List.length_cons, List.length_append, List.length_nil];congr 1; omega
 ·refine .inr ⟨by omega, ?_⟩;rw [decide_eq_false c] at h ⊢
  exact R _ h
section
variable {e : Ex} (R : RT l p e)
include R
theorem part5 (h : At l k (partE e 5)) (hk' : k' = k + (partE e 5).length) (hn : nof w5 (tk l k')) : p.primary k = .ok (stE e) k' := by
 rcases partE_at R h hk' with ⟨_, h1⟩ | ⟨h1, r⟩
 ·exact h1
 ·exact r.prim (by have := (level_ge e).2; omega) hn
theorem part4 (h : At l k (partE e 4)) (hk' : k' = k + (partE e 4).length) (hn : nof w5 (tk l k')) : p.factor k = .ok (stE e) k' := by
 rcases partE_at R h hk' with ⟨_, h1⟩ | ⟨h1, r⟩
 ·exact fac_of_prim h.1 h1
 ·exact r.fac h1 hn
theorem part3 (h : At l k (partE e 3)) (hk' : k' = k + (partE e 3).length) (hn : nof w5 (tk l k')) : p.term k = p.mulL (stE e) k' := by
 rcases partE_at R h hk' with ⟨_, h1⟩ | ⟨h1, r⟩
 ·exact term_of_fac h.1 (fac_of_prim h.1 h1)
 ·exact r.term h1 hn
theorem part2 (h : At l k (partE e 2)) (hk' : k' = k + (partE e 2).length) (hn : nof w3 (tk l k')) : p.simple k = p.addL (stE e) k' := by
 rcases partE_at R h hk' with ⟨_, h1⟩ | ⟨h1, r⟩
 ·exact simp_of_term h.1 (by have := h.le; omega) (term_of_fac h.1 (fac_of_prim h.1 h1)) hn
 ·exact r.simp h1 hn
theorem part2s (h : At l k (partE e 2)) (hk' : k' = k + (partE e 2).length) (hn : nof w2 (tk l k')) : p.simple k = .ok (stE e) k' := by
 rw [part2 R h hk' (s32 hn), addL_stop (by have := h.le; omega) hn]
theorem part1 (h : At l k (partE e 1)) (hk' : k' = k + (partE e 1).length) (hn : nof w1 (tk l k')) : relQ p k = .ok (stE e) k' := by
 rcases partE_at R h hk' with ⟨_, h1⟩ | ⟨h1, r⟩
 ·have hk2 : k' ≤ l.length := by have := h.le; omega
  exact rel_of_simp hk2 (simp_of_term h.1 hk2 (term_of_fac h.1 (fac_of_prim h.1 h1)) (s31 hn)) hn
 ·exact r.rel h1 (sd1 hn) fun _ => hn
end
end
end Go.Dl

-- Chapter 3: expressions: the plain laws, part 12: the tokens of an expression are read as that expression.
namespace Go.Dl
open Go
set_option maxRecDepth 10000
theorem len1 {l : List Ex} (h : l.length = 1) : ∃ x, l = [x] := by
 match l, h with
 | [x], _ => exact ⟨x, rfl⟩
theorem len2 {l : List Ex} (h : l.length = 2) : ∃ x y, l = [x, y] := by
 match l, h with
 | [x, y], _ => exact ⟨x, y, rfl⟩
theorem len3 {l : List Ex} (h : l.length = 3) : ∃ x y z, l = [x, y, z] := by
 match l, h with
 | [x, y, z], _ => exact ⟨x, y, z, rfl⟩
theorem namedN1 {e : Ex} (h : namedN e 1 = true) : ∃ x, e.l = [x] ∧ namedE x = true := by
 rw [namedN, Bool.and_eq_true, decide_eq_true_eq] at h;obtain ⟨x, hx⟩ := len1 h.1;rw [hx] at h;exact ⟨x, hx, h.2⟩
theorem namedN2 {e : Ex} (h : namedN e 2 = true) : ∃ x y, e.l = [x, y] ∧ namedE x = true := by
 rw [namedN, Bool.and_eq_true, decide_eq_true_eq] at h;obtain ⟨x, y, hx⟩ := len2 h.1;rw [hx] at h;exact ⟨x, y, hx, h.2⟩
section
variable {e : Ex}
theorem ff1 (h : e.kind = 1) (hf : fieldsE e = true) : e.l = [] ∧ e.oper = 0 ∧ e.s = [] ∧ e.a = [] := by
 have : fieldsE e = (e.l.isEmpty && decide (0 ≤ e.n) && decide (e.n ≤ 2147483647) && zO e && zS e && zA e) := by unfold fieldsE; rw [h]; rfl
 rw [this] at hf;simp only [Bool.and_eq_true, zO, zS, zA, decide_eq_true_eq, List.isEmpty_iff] at hf;exact ⟨hf.1.1.1.1.1, hf.1.1.2, hf.1.2, hf.2⟩
theorem ff2 (h : e.kind = 2) (hf : fieldsE e = true) : e.l = [] ∧ e.oper = 0 ∧ e.n = 0 ∧ e.s = [] ∧ e.a = [] := by
 have : fieldsE e = (e.l.isEmpty && zO e && zN e && zS e && zA e) := by unfold fieldsE; rw [h]; rfl
 rw [this] at hf;simp only [Bool.and_eq_true, zO, zN, zS, zA, decide_eq_true_eq, List.isEmpty_iff] at hf;exact ⟨hf.1.1.1.1, hf.1.1.1.2, hf.1.1.2, hf.1.2, hf.2⟩
theorem ff3 (h : e.kind = 3) (hf : fieldsE e = true) : e.l = [] ∧ e.oper = 0 ∧ e.n = 0 ∧ e.a = [] := by
 have : fieldsE e = (e.l.isEmpty && nameB e.s && zO e && zN e && zA e) := by unfold fieldsE; rw [h]; rfl
 rw [this] at hf;simp only [Bool.and_eq_true, zO, zN, zA, decide_eq_true_eq, List.isEmpty_iff] at hf;exact ⟨hf.1.1.1.1, hf.1.1.2, hf.1.2, hf.2⟩
theorem ff46 (h : e.kind = 4 ∨ e.kind = 6) (hf : fieldsE e = true) : (∃ x, e.l = [x] ∧ namedE x = true) ∧ e.oper = 0 ∧ e.n = 0 ∧ e.a = [] := by
 have : fieldsE e = (namedN e 1 && nameB e.s && zO e && zN e && zA e) := by rcases h with h | h <;> (unfold fieldsE; rw [h]; rfl)
 rw [this] at hf;simp only [Bool.and_eq_true, zO, zN, zA, decide_eq_true_eq, List.isEmpty_iff] at hf;exact ⟨namedN1 hf.1.1.1.1, hf.1.1.2, hf.1.2, hf.2⟩
theorem ff5 (h : e.kind = 5) (hf : fieldsE e = true) : (∃ x, e.l = [x] ∧ namedE x = true) ∧ e.oper = 0 ∧ e.n = 0 ∧ e.s = [] ∧ e.a = [] := by
 have : fieldsE e = (namedN e 1 && zO e && zN e && zS e && zA e) := by unfold fieldsE; rw [h]; rfl
 rw [this] at hf;simp only [Bool.and_eq_true, zO, zN, zS, zA, decide_eq_true_eq, List.isEmpty_iff] at hf;exact ⟨namedN1 hf.1.1.1.1, hf.1.1.1.2, hf.1.1.2, hf.1.2, hf.2⟩
theorem ff7 (h : e.kind = 7) (hf : fieldsE e = true) : (∃ x, e.l = [x] ∧ namedE x = true) ∧ argsOk e.a = true ∧ e.oper = 0 ∧ e.n = 0 ∧ e.s = [] := by
 have : fieldsE e = (namedN e 1 && argsOk e.a && zO e && zN e && zS e) := by unfold fieldsE; rw [h]; rfl
 rw [this] at hf;simp only [Bool.and_eq_true, zO, zN, zS, decide_eq_true_eq] at hf;exact ⟨namedN1 hf.1.1.1.1, hf.1.1.1.2, hf.1.1.2, hf.1.2, hf.2⟩
theorem ff8 (h : e.kind = 8) (hf : fieldsE e = true) : (∃ x y, e.l = [x, y] ∧ namedE x = true) ∧ e.oper = 0 ∧ e.n = 0 ∧ e.s = [] ∧ e.a = [] := by
 have : fieldsE e = (namedN e 2 && zO e && zN e && zS e && zA e) := by unfold fieldsE; rw [h]; rfl
 rw [this] at hf;simp only [Bool.and_eq_true, zO, zN, zS, zA, decide_eq_true_eq, List.isEmpty_iff] at hf;exact ⟨namedN2 hf.1.1.1.1, hf.1.1.1.2, hf.1.1.2, hf.1.2, hf.2⟩
theorem ff9 (h : e.kind = 9) (hf : fieldsE e = true) : e.l = [] ∧ assocsOk e.a = true ∧ e.oper = 0 ∧ e.n = 0 ∧ e.s = [] := by
 have : fieldsE e = (e.l.isEmpty && assocsOk e.a && zO e && zN e && zS e) := by unfold fieldsE; rw [h]; rfl
 rw [this] at hf;simp only [Bool.and_eq_true, zO, zN, zS, decide_eq_true_eq, List.isEmpty_iff] at hf;exact ⟨hf.1.1.1.1, hf.1.1.1.2, hf.1.1.2, hf.1.2, hf.2⟩
theorem ff10 (h : e.kind = 10) (hf : fieldsE e = true) : (∃ x y z, e.l = [x, y, z]) ∧ e.oper = 0 ∧ e.n = 0 ∧ e.s = [] ∧ e.a = [] := by
 have : fieldsE e = (decide (e.l.length = 3) && zO e && zN e && zS e && zA e) := by unfold fieldsE; rw [h]; rfl
 rw [this] at hf;simp only [Bool.and_eq_true, zO, zN, zS, zA, decide_eq_true_eq, List.isEmpty_iff] at hf;exact ⟨len3 hf.1.1.1.1, hf.1.1.1.2, hf.1.1.2, hf.1.2, hf.2⟩
theorem ff11 (h : e.kind = 11) (hf : fieldsE e = true) : (∃ x, e.l = [x]) ∧ (∃ o : Nat, e.oper = o ∧ (o = 18 ∨ o = 19 ∨ o = 20 ∨ o = 21)) ∧ e.n = 0 ∧ e.s = [] ∧ e.a = [] := by
 have : fieldsE e = (decide (e.l.length = 1) && decide (18 ≤ e.oper) && decide (e.oper ≤ 21) && zN e && zS e && zA e) := by unfold fieldsE; rw [h]; rfl
 rw [this] at hf;simp only [Bool.and_eq_true, zN, zS, zA, decide_eq_true_eq, List.isEmpty_iff] at hf;exact ⟨len1 hf.1.1.1.1.1, ⟨e.oper.toNat, by omega, by omega⟩, hf.1.1.2, hf.1.2, hf.2⟩
theorem ff12 (h : e.kind = 12) (hf : fieldsE e = true) : (∃ x y, e.l = [x, y]) ∧ (∃ o : Nat, e.oper = o ∧ 1 ≤ o ∧ o ≤ 17) ∧ e.n = 0 ∧ e.s = [] ∧ e.a = [] := by
 have : fieldsE e = (decide (e.l.length = 2) && decide (1 ≤ e.oper) && decide (e.oper ≤ 17) && zN e && zS e && zA e) := by unfold fieldsE; rw [h]; rfl
 rw [this] at hf;simp only [Bool.and_eq_true, zN, zS, zA, decide_eq_true_eq, List.isEmpty_iff] at hf;exact ⟨len2 hf.1.1.1.1.1, ⟨e.oper.toNat, by omega, by omega, by omega⟩, hf.1.1.2, hf.1.2, hf.2⟩
theorem ff134 (h : e.kind = 13 ∨ e.kind = 14) (hf : fieldsE e = true) : ((∃ x y z, e.l = [x, y, z]) ∨ ∃ x y, e.l = [x, y] ∧ namedE y = true) ∧ e.oper = 0 ∧ e.n = 0 ∧ e.s = [] ∧ e.a = [] := by
 have : fieldsE e = ((decide (e.l.length = 3) || decide (e.l.length = 2) && namedE (e.l.getD 1 ex0)) && zO e && zN e && zS e && zA e) := by rcases h with h | h <;> (unfold fieldsE; rw [h]; rfl)
 rw [this] at hf;simp only [Bool.and_eq_true, Bool.or_eq_true, zO, zN, zS, zA, decide_eq_true_eq, List.isEmpty_iff] at hf;refine ⟨?_, hf.1.1.1.2, hf.1.1.2, hf.1.2, hf.2⟩;rcases hf.1.1.1.1 with h3 | h2
 ·exact .inl (len3 h3)
 ·obtain ⟨x, y, hx⟩ := len2 h2.1;rw [hx] at h2;exact .inr ⟨x, y, hx, h2.2⟩
theorem nm_of (h : 3 ≤ e.kind ∧ e.kind ≤ 8) : namedE e = true := by rw [namedE, decide_eq_true h.1, decide_eq_true h.2]; rfl
theorem nm_not (h : e.kind < 3 ∨ 8 < e.kind) : namedE e = true → False := fun c => by
 rw [namedE, Bool.and_eq_true, decide_eq_true_eq, decide_eq_true_eq] at c; omega
end
theorem sepT_flat (s : List UInt8) : ∀ (x : List Tok) (xs : List (List Tok)), sepT s (x :: xs) = x ++ xs.flatMap fun t => wTok s :: t
 | x, [] => by simp [sepT]
 | x, y :: ys => by rw [sepT_cons s x _ (by simp), sepT_flat s y ys, List.flatMap_cons]; simp
section
variable {l : List Tok} {k k' : Nat} {s : List UInt8} {p : PS} [hr : Rdr l p]
theorem list_rd {α β : Type} {f : Nat → Res α} {fL : List α → Nat → Res (List α)} {sep : List UInt8} {W : List (List UInt8)} {g : β → List Tok} {st : β → α}
  (hL : ∀ az k, k ≤ l.length → fL az k = if isW l k [sep] then (f (k + 1)).then fun a k => fL (az ++ [a]) k else .ok az k) (hsep : nof W (wTok sep)) :
  ∀ (bs : List β) (acc : List α) (k : Nat), (∀ b ∈ bs, ∀ k, At l k (g b) → nof W (tk l (k + (g b).length)) → f k = .ok (st b) (k + (g b).length)) → At l k (bs.flatMap fun b => wTok sep :: g b) →
   nof W (tk l (k + (bs.flatMap fun b => wTok sep :: g b).length)) → isW l (k + (bs.flatMap fun b => wTok sep :: g b).length) [sep] = false → fL acc k = .ok (acc ++ bs.map st) (k + (bs.flatMap fun b => wTok sep :: g b).length)
 | [], acc, k, _, ha, _, hn => by
  rw [List.flatMap_nil, List.length_nil, Nat.add_zero] at hn ⊢
  rw [hL acc k ha.1, hn, List.map_nil, List.append_nil]; rfl
 | b :: r, acc, k, he, ha, hw, hn => by
  rw [List.flatMap_cons] at ha hw hn ⊢
  have e1 : k + (wTok sep :: g b ++ r.flatMap fun b => wTok sep :: g b).length = k + 1 + (g b).length + (r.flatMap fun b => wTok sep :: g b).length := by
   rw [List.length_append, List.length_cons]; omega
  rw [e1] at hw hn ⊢
  have h1 : At l (k + 1) (g b ++ r.flatMap fun b => wTok sep :: g b) := At.tail ha;have h2 := h1.right;have hf : nof W (tk l (k + 1 + (g b).length)) := by
   cases r with
   | nil => simpa using hw
   | cons c r' =>
    rw [List.flatMap_cons] at h2;rw [(At.head h2).1]; exact hsep
  rw [hL acc k ha.1, if_pos (At.word ha), he b (by simp) _ h1.left hf];show fL (acc ++ [st b]) _ = _;rw [list_rd hL hsep r (acc ++ [st b]) _ (fun c hc => he c (by simp [hc])) h2 hw hn];simp
theorem list_rd1 {α β : Type} {f : Nat → Res α} {fL : List α → Nat → Res (List α)} {sep : List UInt8} {W : List (List UInt8)} {g : β → List Tok} {st : β → α}
  (hL : ∀ az k, k ≤ l.length → fL az k = if isW l k [sep] then (f (k + 1)).then fun a k => fL (az ++ [a]) k else .ok az k) (hsep : nof W (wTok sep))
  {b : β} {r : List β} (he : ∀ c ∈ b :: r, ∀ k, At l k (g c) → nof W (tk l (k + (g c).length)) → f k = .ok (st c) (k + (g c).length)) (ha : At l k (sepT sep ((b :: r).map g)))
  (hk' : k' = k + (sepT sep ((b :: r).map g)).length) (hw : nof W (tk l k')) (hn : isW l k' [sep] = false) :
  ∃ j, f k = .ok (st b) j ∧ fL [st b] j = .ok ((b :: r).map st) k' ∧ j ≤ l.length ∧ (r ≠ [] → isW l j [sep] = true) ∧ (r = [] → j = k') := by
 have e1 : sepT sep ((b :: r).map g) = g b ++ r.flatMap fun c => wTok sep :: g c := by
  rw [List.map_cons, sepT_flat, flatMap_map']
 rw [e1] at ha hk';rw [List.length_append, ← Nat.add_assoc] at hk';have h2 := ha.right;have hf : nof W (tk l (k + (g b).length)) := by
  cases r with
  | nil => rw [List.flatMap_nil, List.length_nil, Nat.add_zero] at hk'; rw [← hk']; exact hw
  | cons c r' =>
   rw [List.flatMap_cons] at h2;rw [(At.head h2).1]; exact hsep
 refine ⟨_, he b (by simp) k ha.left hf, ?_, h2.1, fun hr => ?_, fun hr => ?_⟩
 ·subst hk';rw [list_rd hL hsep r [st b] _ (fun c hc => he c (by simp [hc])) h2 hw hn]; rfl
 ·cases r with
  | nil => exact absurd rfl hr
  | cons c r' =>
   rw [List.flatMap_cons] at h2;exact At.word h2
 ·subst hr;rw [hk', List.flatMap_nil, List.length_nil, Nat.add_zero]
def wA : List (List UInt8) := w0 ++ [wArrow, wBar]
theorem toks_named {x : Ex} (h : x.kind = 3) (hf : fieldsE x = true) : stE x = .mk 3 0 0 x.s [] [] 0 0 0 := by
 obtain ⟨a, b, c, d⟩ := ff3 h hf;rw [stE_eq, h, a, b, c, d]; rfl
theorem arg_rd (hz : ∀ k, (tk l k).line = 0) {a : As} (ha : (a.c.isEmpty || simpleCs a.c) = true) (hp : ∀ x ∈ partsA a, fieldsE x = true ∧ RT l p x) (h : At l k (toksA a)) (hn : nof wA (tk l (k + (toksA a).length))) :
  p.arg k = .ok (stA a) (k + (toksA a).length) := by
 obtain ⟨he1, he2⟩ := hp a.e (mem_partsA_e a)
 rw [stA_eq]
 by_cases c0 : a.c = []
 ·rw [toksA_eq, c0, List.isEmpty_nil, if_pos rfl] at h hn ⊢
  exact arg_expr h.1 ((he2 _ h).full (nof_sub hn (by decide))) (nof_isW hn (by decide) [])
 ·obtain ⟨c, hc⟩ : ∃ c, a.c = [c] ∧ c.kind = 1 ∧ ∃ x, c.l = [x] ∧ x.kind = 3 := by
   match hcc : a.c, c0 with
   | [c], _ =>
    rw [hcc] at ha
    simp only [simpleCs, List.isEmpty_cons, Bool.false_or, Bool.and_eq_true, decide_eq_true_eq] at ha
    refine ⟨c, rfl, ha.1, ?_⟩
    match hl : c.l with
    | [x] => rw [hl] at ha; exact ⟨x, rfl, by simpa using ha.2⟩
    | [] => rw [hl] at ha; cases ha.2
    | _ :: _ :: _ => rw [hl] at ha; cases ha.2
   | c :: d :: r, _ => rw [hcc] at ha; simp [simpleCs] at ha
  obtain ⟨hc, hk1, x, hx, hx3⟩ := hc
  have hpx := hp x (mem_partsA_c (c := c) (by rw [hc]; simp) (by rw [hx]; simp))
  have ht : toksA a = nmTok x.s :: wTok wArrow :: toksE a.e := by
   rw [toksA_eq, hc]
   show toksC c ++ _ = _
   rw [toksC_eq, if_pos hk1, hx, List.map_singleton]
   show toksE x ++ _ = _
   rw [toks3 hx3]; rfl
  rw [ht] at h hn ⊢
  have h1 : At l (k + 1) (wTok wArrow :: toksE a.e) := At.tail h
  have h2 : At l (k + 2) (toksE a.e) := At.tail h1
  have e1 : k + (nmTok x.s :: wTok wArrow :: toksE a.e).length = k + 2 + (toksE a.e).length := by simp only [List.length_cons]; omega
  rw [e1] at hn ⊢
  rw [q_arg h.1, h.head.1, if_pos ⟨rfl, At.word h1⟩, (he2 _ h2).full (nof_sub hn (by decide))]
  show Res.ok _ _ = _
  rw [hc, List.map_singleton, stC_eq, hk1, hx, List.map_singleton, toks_named hx3 hpx.1]; rfl
theorem choice_rd {n : Nat} {c : Ch} (hc : rightC n c = true) (hp : ∀ x ∈ c.l, RT l p x) (h : At l k (toksC c)) (hn : nof w0 (tk l (k + (toksC c).length))) : p.choice k = .ok (stC c) (k + (toksC c).length) := by
 rw [stC_eq];unfold rightC at hc;by_cases c1 : c.kind = 1
 ·rw [if_pos c1, decide_eq_true_eq] at hc;obtain ⟨x, hx⟩ := len1 hc;have ht : toksC c = toksE x := by rw [toksC_eq, if_pos c1, hx]; rfl
  rw [ht] at h hn ⊢
  rw [choice_expr h.1 ((hp x (by rw [hx]; simp) _ h).full hn) (nof_isW hn (by decide) []), c1, hx]; rfl
 ·rw [if_neg c1] at hc;by_cases c2 : c.kind = 2
  ·rw [if_pos c2, decide_eq_true_eq] at hc;obtain ⟨x, y, hx⟩ := len2 hc;have ht : toksC c = partE x 2 ++ wTok wDots :: partE y 2 := by rw [toksC_eq, if_neg c1, if_pos c2, hx]; rfl
   rw [ht] at h hn ⊢
   have h1 := h.right;have h2 : At l (k + (partE x 2).length + 1) (partE y 2) := At.tail h1;have e1 : k + (partE x 2 ++ wTok wDots :: partE y 2).length = k + (partE x 2).length + 1 + (partE y 2).length := by rw [List.length_append, List.length_cons]; omega
   rw [e1] at hn ⊢
   have s1 := part2s (hp x (by rw [hx]; simp)) h.left rfl (by rw [h1.head.1]; decide +kernel);have s2 := part2s (hp y (by rw [hx]; simp)) h2 rfl (nof_sub hn (by decide));rw [q_choice h.1, simple_no s1 (s := wOthers) (by decide), s1];show (if isW l _ [wDots] then _ else _) = _;rw [if_pos (At.word h1), s2, c2, hx]; rfl
  ·rw [if_neg c2] at hc;simp only [Bool.and_eq_true, decide_eq_true_eq] at hc;have ht : toksC c = [wTok wOthers] := by rw [toksC_eq, if_neg c1, if_neg c2]
   rw [ht] at h hn ⊢
   rw [q_choice h.1, if_pos (At.word h), hc.1.1, List.length_eq_zero_iff.1 hc.1.2]; rfl
theorem assoc_rd {a : As} (ha : (a.c.isEmpty || rightCs a.c) = true) (hp : ∀ x ∈ partsA a, RT l p x) (h : At l k (toksA a)) (hn : nof wA (tk l (k + (toksA a).length))) :
  p.assoc k = .ok (stA a) (k + (toksA a).length) := by
 have he := hp a.e (mem_partsA_e a);rw [stA_eq];cases hc : a.c with
 | nil =>
  rw [toksA_eq, hc, List.isEmpty_nil, if_pos rfl] at h hn ⊢
  exact assoc_expr h.1 ((he _ h).full (nof_sub hn (by decide))) (nof_isW hn (by decide) []) (nof_isW hn (by decide) []) (nof_isW hn (by decide) [])
 | cons c r =>
  rw [hc] at ha;simp only [List.isEmpty_cons, Bool.false_or, rightCs, Bool.and_eq_true, decide_eq_true_eq, List.all_eq_true] at ha;have ht : toksA a = sepT wBar ((c :: r).map toksC) ++ wTok wArrow :: toksE a.e := by rw [toksA_eq, hc, List.isEmpty_cons, if_neg (by simp)]
  rw [ht] at h hn ⊢
  have h1 := h.right;have h2 : At l (k + (sepT wBar ((c :: r).map toksC)).length + 1) (toksE a.e) := At.tail h1;have e1 : k + (sepT wBar ((c :: r).map toksC) ++ wTok wArrow :: toksE a.e).length = k + (sepT wBar ((c :: r).map toksC)).length + 1 + (toksE a.e).length := by rw [List.length_append, List.length_cons]; omega
  rw [e1] at hn ⊢
  have hex := (he _ h2).full (nof_sub hn (by decide));have hw := At.word h1;obtain ⟨j, g1, g2, g3, g4, g5⟩ := list_rd1 (l := l) (f := p.choice) (fL := p.choicesL) (sep := wBar) (W := w0) (g := toksC) (st := stC) (fun az k hk => q_choicesL az hk) (by decide +kernel) (b := c) (r := r)
   (fun d hd k hat hno => choice_rd (ha.2 d hd) (fun x hx => hp x (mem_partsA_c (c := d) (by rw [hc]; exact hd) hx)) hat hno) h.left rfl (by rw [h1.head.1]; decide +kernel) (isW1_ne hw (by decide))
  rw [q_assoc h.1, g1];show (if _ then _ else _) = _;rw [if_neg, stC_kind]
  ·by_cases c3 : c.kind = 3
   ·have hr0 : r = [] := by
     have := ha.2 c (by simp);unfold rightC at this;rw [if_neg (by omega), if_neg (by omega)] at this;simp only [Bool.and_eq_true, decide_eq_true_eq, List.length_cons] at this;exact List.length_eq_zero_iff.1 (by omega)
    rw [if_pos c3, g5 hr0, must, if_pos hw, hex, hr0]; rfl
   ·rw [if_neg c3, g2];show must l wArrow _ (fun k => (p.expr k).then fun e k => Res.ok (As.mk ((c :: r).map stC) e) k) = _;rw [must, if_pos hw, hex]; rfl
  ·rintro ⟨_, b1, b2⟩;cases r with
   | nil => rw [g5 rfl, hw] at b2; cases b2
   | cons d r' => rw [g4 (by simp)] at b1; cases b1
end
end Go.Dl

-- Chapter 3: expressions: the plain laws, part 13: the tokens of an expression are read as that expression: each kind.
namespace Go.Dl
open Go
set_option maxRecDepth 10000
theorem aggr_many {az : List As} (h : oneBare az = false) (li : Int) : aggr li az = .mk 9 0 0 [] [] az li 0 0 := by
 match az, h with
 | [], _ => rfl
 | [x], h =>
  show (if x.c = [] then x.e else _) = _
  rw [if_neg]
  intro c
  simp [oneBare, c] at h
 | _ :: _ :: _, _ => rfl
theorem assocAll_mem : ∀ {l : List As}, assocAll l = true → ∀ a ∈ l, (a.c.isEmpty || rightCs a.c) = true
 | [], _, a, h => by cases h
 | b :: r, h, a, hm => by
  rw [assocAll, Bool.and_eq_true] at h;rcases List.mem_cons.1 hm with rfl | hm
  ·have := h.1;rw [Bool.or_eq_true] at this ⊢
   rcases this with h1 | h1
   ·exact .inl h1
   ·rw [Bool.and_eq_true] at h1; exact .inr h1.1
  ·exact assocAll_mem h.2 a hm
theorem okThen {α β : Type} (x : α) (k : Nat) (f : α → Nat → Res β) : (Res.ok x k).then f = f x k := rfl
theorem must_pos {l : List Tok} {α : Type} {s : List UInt8} {k : Nat} {f : Nat → Res α} (h : isW l k [s] = true) : must l s k f = f (k + 1) := by rw [must, if_pos h]
section
variable {l : List Tok} {k k' : Nat} {s : List UInt8} {p : PS} [hr : Rdr l p] {e : Ex}
variable (hz : ∀ k, (tk l k).line = 0) (hf : fieldsE e = true) (ih : ∀ x ∈ parts e, RT l p x)
include hf hz
theorem rt1 (h : e.kind = 1) : RT l p e := by
 obtain ⟨a, b, c, d⟩ := ff1 h hf;intro k hat;rw [toks1 h] at hat ⊢
 refine .of5 ⟨hat.1, hat.le⟩ (lv5 (by omega)) (fun c => (nm_not (by omega) c).elim) (fun c => by rw [h] at c; cases c) fun _ => ?_;have ht := hat.head.1;rw [q_primary hat.1, ht, if_pos (show (inTok e.n).kind = 3 from rfl), stE_eq, h, a, b, c, d]; rfl
theorem rt2 (h : e.kind = 2) : RT l p e := by
 obtain ⟨a, b, c, d, d2⟩ := ff2 h hf;intro k hat;rw [toks2 h] at hat ⊢
 refine .of5 ⟨hat.1, hat.le⟩ (lv5 (by omega)) (fun c => (nm_not (by omega) c).elim) (fun c => by rw [h] at c; cases c) fun _ => ?_;have hw := At.word hat;rw [q_primary hat.1, if_neg (word_kind hw).2.1, if_pos hw, hz, stE_eq, h, a, b, c, d, d2]; rfl
theorem rt3 (h : e.kind = 3) : RT l p e := by
 intro k hat;rw [toks3 h] at hat ⊢
 refine .ofName ⟨hat.1, hat.le⟩ (nm_of (by omega)) ?_;have ht := hat.head.1;rw [q_name hat.1, takeN, if_pos (by rw [ht]; rfl), hz, ht, toks_named h hf]; rfl
include ih
theorem rt4 (h : e.kind = 4) : RT l p e := by
 obtain ⟨⟨x, hx, hn⟩, b, c, d⟩ := ff46 (.inl h) hf;have ht : toksE e = toksE x ++ [wTok wDot, nmTok e.s] := by rw [toks4 h]; unfold tE; rw [hx]; rfl
 intro k hat;rw [ht] at hat ⊢
 have r := ih x (mem_parts_l (by rw [hx]; simp)) k hat.left;have h1 := hat.right;have h2 : At l (k + (toksE x).length + 1) [nmTok e.s] := At.tail h1;have h3 := h2.head.1;have w1 : isW l (k + (toksE x).length) [wDot] = true := At.word h1;have w4 : isW l (k + (toksE x).length + 1) [wAll] = false := nof_isW (ws := [wAll]) (by rw [h3]; exact nof_kind (.inl rfl)) (by simp) [];refine .ofName ⟨hat.1, hat.le⟩ (nm_of (by omega)) ?_;rw [r.name hn, q_nameL _ _ r.le.2, isW2 (s := wDot) (t := wAll), w4, Bool.and_false, if_neg (by simp), if_pos w1, takeN, if_pos (by rw [h3]; rfl), h3, stE_eq e, h, hx, b, c, d, List.length_append]; rfl
theorem rt5 (h : e.kind = 5) : RT l p e := by
 obtain ⟨⟨x, hx, hn⟩, b, c, d, d2⟩ := ff5 h hf;have ht : toksE e = toksE x ++ [wTok wDot, wTok wAll] := by rw [toks5 h]; unfold tE; rw [hx]; rfl
 intro k hat;rw [ht] at hat ⊢
 have r := ih x (mem_parts_l (by rw [hx]; simp)) k hat.left;have w1 : isW l (k + (toksE x).length) [wDot, wAll] = true := At.words (ws := [wDot, wAll]) (ts := []) hat.right;refine .ofName ⟨hat.1, hat.le⟩ (nm_of (by omega)) ?_;rw [r.name hn, q_nameL _ _ r.le.2, if_pos w1, stE_eq e, h, hx, b, c, d, d2, List.length_append]; rfl
theorem rt6 (h : e.kind = 6) : RT l p e := by
 obtain ⟨⟨x, hx, hn⟩, b, c, d⟩ := ff46 (.inr h) hf;have ht : toksE e = toksE x ++ [wTok wTick, nmTok e.s] := by rw [toks6 h]; unfold tE; rw [hx]; rfl
 intro k hat;rw [ht] at hat ⊢
 have r := ih x (mem_parts_l (by rw [hx]; simp)) k hat.left;have h1 := hat.right;have h2 : At l (k + (toksE x).length + 1) [nmTok e.s] := At.tail h1;have h3 := h2.head.1;have w1 : isW l (k + (toksE x).length) [wTick] = true := At.word h1;have w2 : isW l (k + (toksE x).length) [wDot] = false := isW1_ne w1 (by decide);have w4 : isW l (k + (toksE x).length + 1) [wOpen] = false := nof_isW (ws := [wOpen]) (by rw [h3]; exact nof_kind (.inl rfl)) (by simp) [];refine .ofName ⟨hat.1, hat.le⟩ (nm_of (by omega)) ?_;rw [r.name hn, q_nameL _ _ r.le.2, isW_cons_false w2, w2, isW1_ne w1 (t := wOpen) (by decide), isW2 (s := wTick) (t := wOpen), w4, Bool.and_false, if_neg (by simp), if_neg (by simp), if_neg (by simp), if_neg (by simp), if_pos w1, takeN, if_pos (by rw [h3]; rfl), h3, stE_eq e, h, hx, b, c, d, List.length_append]; rfl
theorem rt7 (hv : ∀ x ∈ parts e, fieldsE x = true) (h : e.kind = 7) : RT l p e := by
 obtain ⟨⟨x, hx, hn⟩, ha, b, c, d⟩ := ff7 h hf;have ht : toksE e = toksE x ++ wTok wOpen :: (taE e ++ [wTok wShut]) := by rw [toks7 h]; unfold tE; rw [hx]; rfl
 intro k hat;rw [ht] at hat ⊢
 have r := ih x (mem_parts_l (by rw [hx]; simp)) k hat.left;have h1 := hat.right;have h2 : At l (k + (toksE x).length + 1) (taE e ++ [wTok wShut]) := At.tail h1;have h3 := h2.right;have w1 : isW l (k + (toksE x).length) [wOpen] = true := At.word h1;have w2 : isW l (k + (toksE x).length) [wDot] = false := isW1_ne w1 (by decide);have w3 := At.word h3;rw [argsOk, Bool.and_eq_true, Bool.and_eq_true, Bool.and_eq_true, decide_eq_true_eq, decide_eq_true_eq, List.all_eq_true] at ha;refine .ofName ⟨hat.1, hat.le⟩ (nm_of (by omega)) ?_;cases hea : e.a with
 | nil => rw [hea] at ha; simp at ha
 | cons a az =>
  have hta : taE e = sepT wComma ((a :: az).map toksA) := by rw [taE, hea]
  obtain ⟨j, g1, g2, g3, g4, g5⟩ := list_rd1 (l := l) (f := p.arg) (fL := p.argsL) (sep := wComma) (W := wA) (g := toksA) (st := stA) (fun az k hk => q_argsL az hk) (by decide +kernel) (b := a) (r := az)
   (fun c hc k hat hno => arg_rd hz (ha.2 c (by rw [hea]; exact hc)) (fun y hy => ⟨hv y (mem_parts_a (by rw [hea]; exact hc) hy), ih y (mem_parts_a (by rw [hea]; exact hc) hy)⟩) hat hno) (by rw [← hta]; exact h2.left) rfl (by rw [← hta, h3.head.1]; decide +kernel) (by rw [← hta]; exact isW1_ne w3 (by decide))
  rw [r.name hn, q_nameL _ _ r.le.2, isW_cons_false w2, w2, if_neg (by simp), if_neg (by simp), if_pos w1, g1];show (p.argsL [stA a] j).then _ = _
  rw [g2];show must l wShut _ (fun k => p.nameL 0 (.mk 7 0 0 [] [stE x] ((a :: az).map stA) 0 0 0) k) = _;rw [must, ← hta, if_pos w3, stE_eq e, h, hx, b, c, d, hea, List.length_append, List.length_cons, List.length_append];congr 1;simp only [List.length_cons, List.length_nil]; omega
theorem rt8 (h : e.kind = 8) : RT l p e := by
 obtain ⟨⟨x, y, hx, hn⟩, b, c, d, d2⟩ := ff8 h hf;have ht : toksE e = toksE x ++ wTok wTick :: parT (!bareK y.kind) (toksE y) := by rw [toks8 h]; unfold tE; rw [hx]; rfl
 intro k hat;rw [ht] at hat ⊢
 have r := ih x (mem_parts_l (by rw [hx]; simp)) k hat.left;have hy := ih y (mem_parts_l (by rw [hx]; simp));have h1 := hat.right;have h2 : At l (k + (toksE x).length + 1) (parT (!bareK y.kind) (toksE y)) := At.tail h1;have w1 : isW l (k + (toksE x).length) [wTick] = true := At.word h1;have w2 : isW l (k + (toksE x).length) [wDot] = false := isW1_ne w1 (by decide);have key : isW l (k + (toksE x).length + 1) [wOpen] = true ∧ p.paren (k + (toksE x).length + 1) = .ok (stE y) (k + (toksE x).length + 1 + (parT (!bareK y.kind) (toksE y)).length) := by
  cases hb : bareK y.kind with
  | true =>
   rw [hb] at h2;have h2 : At l (k + (toksE x).length + 1) (toksE y) := h2;have hpr := (hy _ h2).bare hb;refine ⟨?_, hpr⟩;have hy5 : y.kind = 9 ∨ y.kind = 10 := by simpa [bareK] using hb
   rcases hy5 with h9 | h9
   ·rw [toks9 h9] at h2; exact At.word h2
   ·rw [toks10 h9] at h2; exact At.word h2
  | false =>
   rw [hb] at h2;have h2 : At l (k + (toksE x).length + 1) (wTok wOpen :: (toksE y ++ [wTok wShut])) := h2;have h3 : At l (k + (toksE x).length + 1 + 1) (toksE y ++ [wTok wShut]) := At.tail h2;have h4 := h3.right;refine ⟨At.word h2, ?_⟩;rw [paren_expr (At.word h2) ((hy _ h3.left).full (by rw [h4.head.1]; decide +kernel)) (At.word h4)];show _ = Res.ok _ (_ + (wTok wOpen :: (toksE y ++ [wTok wShut])).length);congr 1;simp only [List.length_cons, List.length_append, List.length_nil]; omega
 refine .ofName ⟨hat.1, hat.le⟩ (nm_of (by omega)) ?_;rw [r.name hn, q_nameL _ _ r.le.2, isW_cons_false w2, w2, isW1_ne w1 (t := wOpen) (by decide), isW2, w1, key.1, if_neg (by simp), if_neg (by simp), if_neg (by simp), if_pos (by rfl), key.2];show p.nameL 0 _ _ = _;rw [stE_eq e, h, hx, b, c, d, d2, List.length_append, List.length_cons];congr 1;omega
theorem rt9 (h : e.kind = 9) : RT l p e := by
 obtain ⟨hl, ha, b, c, d⟩ := ff9 h hf;intro k hat;rw [toks9 h] at hat ⊢
 have h2 : At l (k + 1) (taE e ++ [wTok wShut]) := At.tail hat;have h3 := h2.right;have w3 := At.word h3;have w0' := At.word hat;rw [assocsOk] at ha;simp only [Bool.and_eq_true, decide_eq_true_eq, Bool.not_eq_true'] at ha;have hpar : p.paren k = .ok (stE e) (k + (wTok wOpen :: (taE e ++ [wTok wShut])).length) := by
  cases hea : e.a with
  | nil => rw [hea] at ha; simp at ha
  | cons a az =>
   have hta : taE e = sepT wComma ((a :: az).map toksA) := by rw [taE, hea]
   obtain ⟨j, g1, g2, g3, g4, g5⟩ := list_rd1 (l := l) (f := p.assoc) (fL := p.assocsL) (sep := wComma) (W := wA) (g := toksA) (st := stA) (fun az k hk => q_assocsL az hk) (by decide +kernel) (b := a) (r := az)
    (fun c hc k hat hno => assoc_rd (assocAll_mem ha.2 c (by rw [hea]; exact hc)) (fun y hy => ih y (mem_parts_a (by rw [hea]; exact hc) hy)) hat hno) (by rw [← hta]; exact h2.left) rfl (by rw [← hta, h3.head.1]; decide +kernel) (by rw [← hta]; exact isW1_ne w3 (by decide))
   rw [paren_assocs w0' g1 g2 (by rw [← hta]; exact w3), hz, aggr_many (by rw [oneBare_st, ← hea]; exact ha.1.2), stE_eq e, h, hl, b, c, d, hea, ← hta];congr 1;simp only [List.length_cons, List.length_append, List.length_nil]; omega
 exact .of5 ⟨hat.1, hat.le⟩ (lv5 (by omega)) (fun c => (nm_not (by omega) c).elim) (fun _ => hpar) fun _ => by rw [prim_paren w0', hpar]
theorem rt10 (h : e.kind = 10) : RT l p e := by
 obtain ⟨⟨x, y, z, hx⟩, b, c, d, d2⟩ := ff10 h hf;have ht : toksE e = wTok wOpen :: wTok wIf :: (toksE x ++ wTok wThen :: (toksE y ++ wTok wElse :: (toksE z ++ [wTok wShut]))) := by rw [toks10 h]; unfold tE; rw [hx]; rfl
 intro k hat;rw [ht] at hat ⊢
 have w0' := At.word hat;have h1 : At l (k + 1) (wTok wIf :: _) := At.tail hat;have h2 := At.tail h1;have h3 := h2.right;have h4 := (At.tail h3);have h5 := h4.right;have h6 := (At.tail h5);have h7 := h6.right;have r1 := (ih x (mem_parts_l (by rw [hx]; simp)) _ h2.left).full (by rw [h3.head.1]; decide +kernel);have r2 := (ih y (mem_parts_l (by rw [hx]; simp)) _ h4.left).full (by rw [h5.head.1]; decide +kernel);have r3 := (ih z (mem_parts_l (by rw [hx]; simp)) _ h6.left).full (by rw [h7.head.1]; decide +kernel);have hpar : p.paren k = .ok (stE e) (k + (wTok wOpen :: wTok wIf :: (toksE x ++ wTok wThen :: (toksE y ++ wTok wElse :: (toksE z ++ [wTok wShut])))).length) := by
  rw [q_paren hat.1, must_pos w0', if_pos (At.word h1), r1];simp only [okThen, must_pos (At.word h3), r2, must_pos (At.word h5), r3, must_pos (At.word h7)];rw [hz, stE_eq e, h, hx, b, c, d, d2];congr 1;simp only [List.length_cons, List.length_append, List.length_nil]; omega
 exact .of5 ⟨hat.1, hat.le⟩ (lv5 (by omega)) (fun c => (nm_not (by omega) c).elim) (fun _ => hpar) fun _ => by rw [prim_paren w0', hpar]
theorem rt11 (h : e.kind = 11) : RT l p e := by
 obtain ⟨⟨x, hx⟩, ⟨o, ho, ho2⟩, b, c, d⟩ := ff11 h hf;have ht : toksE e = (wordsN o).map wTok ++ partE x (leastM e) := by rw [toks11 h, ho, Int.toNat_natCast]; unfold pE tE; rw [hx]; rfl
 have hlv : levelE e = if o = 18 ∨ o = 19 then 2 else 4 := by
  unfold levelE;rw [h, ho, if_neg (by decide), if_pos rfl];rcases ho2 with rfl | rfl | rfl | rfl <;> rfl
 have hR := ih x (mem_parts_l (by rw [hx]; simp));intro k hat;rw [ht] at hat ⊢
 have h1 := hat.right;rw [List.length_map] at h1;have hst : ∀ li, li = 0 → mona o li (stE x) = stE e := fun li hli => by
  rw [mona, if_neg (by omega), stE_eq e, h, ho, hx, b, c, d, hli]; rfl
 have e1 : k + ((wordsN o).map wTok ++ partE x (leastM e)).length = k + (wordsN o).length + (partE x (leastM e)).length := by rw [List.length_append, List.length_map]; omega
 by_cases c1 : o = 18 ∨ o = 19
 ·have hl2 : levelE e = 2 := by rw [hlv, if_pos c1]
  have hM : leastM e = 3 := by rw [leastM, if_pos hl2]
  rw [hM] at hat h1 e1 ⊢
  rw [e1];obtain ⟨q1, q2⟩ := op_at (want := 0) (.inr (.inl ⟨by simp [opsSign]; omega, rfl⟩)) hat (.inl rfl);refine .of2 ⟨hat.1, by have := h1.le; exact this⟩ hl2 fun hn => ?_;rw [q_simple hat.1, q1];show (p.term (k + (wordsN o).length)).then _ = _
  rw [part3 hR h1 rfl (s53 hn), mulL_stop h1.le hn];show p.addL (mona o _ (stE x)) _ = _;rw [hst _ (hz k)]
 ·have hl2 : levelE e = 4 := by rw [hlv, if_neg c1]
  have hM : leastM e = 5 := by rw [leastM, if_neg (by omega)]
  rw [hM] at hat h1 e1 ⊢
  rw [e1];obtain ⟨q1, q2⟩ := op_at (want := 0) (.inr (.inr (.inr (.inr ⟨by simp [opsFac]; omega, rfl⟩)))) hat (.inl rfl);refine .of4 ⟨hat.1, by have := h1.le; exact this⟩ hl2 fun hn => ?_;rw [q_factor hat.1, q1];show (p.primary (k + (wordsN o).length)).then _ = _
  rw [part5 hR h1 rfl hn];show Res.ok (mona o _ (stE x)) _ = _;rw [hst _ (hz k)]
end
end Go.Dl

-- Chapter 3: expressions: the plain laws, part 14: the tokens of an expression are read as that expression: operators, membership; all.
namespace Go.Dl
open Go
set_option maxRecDepth 10000
def hdW (o : Nat) : List UInt8 := (wordsN o).headD []
theorem hdW_eq : ∀ o, o < 18 → 1 ≤ o → wordsN o = hdW o :: (wordsN o).tail := by decide +kernel
theorem hdW_nof : ∀ o, o < 18 → 1 ≤ o → (o < 3 → nof w3 (wTok (hdW o))) ∧ (o < 7 → nof w5 (wTok (hdW o))) ∧ (7 ≤ o → o < 13 → nof w2 (wTok (hdW o))) ∧ (13 ≤ o → nof w1 (wTok (hdW o))) := by decide +kernel
section
variable {l : List Tok} {k k' : Nat} {s : List UInt8} {p : PS} [hr : Rdr l p] {e : Ex}
theorem op_head {o : Nat} {ts : List Tok} (h1 : 1 ≤ o) (h2 : o ≤ 17) (h : At l k ((wordsN o).map wTok ++ ts)) : tk l k = wTok (hdW o) := by
 rw [hdW_eq o (by omega) h1] at h;exact (At.head h).1
theorem log_round {o : Nat} {x y : Ex} (h1 : 13 ≤ o) (h2 : o ≤ 17) (hR : RT l p y) (h : At l k ((wordsN o).map wTok ++ partE y 1)) (hk' : k' = k + (wordsN o).length + (partE y 1).length) (hn : nof w1 (tk l k')) (want : Nat) (hw : want = 0 ∨ want = o) :
  (opF l want k opsLog) = (o, k + (wordsN o).length) ∧ p.restL o x k = p.restL o (both o x (stE y)) k' := by
 have h3 := h.right;rw [List.length_map] at h3;have hrel := part1 hR h3 hk' hn;have ho : o ∈ opsLog := by simp [opsLog]; omega
 have hs : ∃ z j, p.simple (k + (wordsN o).length) = .ok z j := by
  rw [relQ] at hrel;cases c : p.simple (k + (wordsN o).length) with
  | bot => rw [c] at hrel; cases hrel
  | fail j => rw [c] at hrel; cases hrel
  | ok z j => exact ⟨z, j, rfl⟩
 obtain ⟨z, j, hs⟩ := hs;have q : ∀ want, want = 0 ∨ want = o → opF l want k opsLog = (o, k + (wordsN o).length) := fun want hw => op_log ho h hw hs;refine ⟨q want hw, ?_⟩;rw [q_restL o x h.1, if_neg (by omega), q o (.inr rfl), if_neg (by dsimp only; omega)];have e1 : ((p.simple (k + (wordsN o).length)).then fun y k => (p.relation y k).then fun y k => p.restL o (both o x y) k) = (relQ p (k + (wordsN o).length)).then fun y k => p.restL o (both o x y) k := by rw [relQ, then_assoc]
 show ((p.simple (k + (wordsN o).length)).then fun y k => (p.relation y k).then fun y k => p.restL o (both o x y) k) = _;rw [e1, hrel]; rfl
variable (hz : ∀ k, (tk l k).line = 0) (hf : fieldsE e = true) (ih : ∀ x ∈ parts e, RT l p x)
include hf ih
theorem rt12 (h : e.kind = 12) : RT l p e := by
 obtain ⟨⟨x, y, hx⟩, ⟨o, ho, ho1, ho2⟩, b, c, d⟩ := ff12 h hf;have ht : toksE e = partE x (leastL e) ++ ((wordsN o).map wTok ++ partE y (leastR e)) := by rw [toks12 h, ho, Int.toNat_natCast]; unfold pE tE; rw [hx]; rfl
 have hlv : levelE e = if 13 ≤ o then 0 else if 7 ≤ o then 1 else if o ≤ 2 then 2 else 3 := by
  unfold levelE;rw [h, ho, if_neg (by decide), if_neg (by decide), if_pos rfl]
  repeat' split
  all_goals omega
 have hX := ih x (mem_parts_l (by rw [hx]; simp));have hY := ih y (mem_parts_l (by rw [hx]; simp));have hst : stE e = both o (stE x) (stE y) := by
  rw [stE_eq e, h, ho, hx, b, c, d, both, stE_line]; rfl
 have g0 : e.l.getD 0 ex0 = x := by rw [hx]; rfl
 have hwn := hdW_nof o (by omega) ho1;intro k hat;rw [ht] at hat ⊢
 have h1 := hat.right;have hhd := op_head ho1 ho2 h1;have h2 := h1.right;rw [List.length_map] at h2;have e1 : k + (partE x (leastL e) ++ ((wordsN o).map wTok ++ partE y (leastR e))).length = k + (partE x (leastL e)).length + (wordsN o).length + (partE y (leastR e)).length := by
  rw [List.length_append, List.length_append, List.length_map]; omega
 have hle := hat.le;rw [e1] at hle ⊢
 by_cases c13 : 13 ≤ o
 ·have hl : levelE e = 0 := by rw [hlv, if_pos c13]
  have hR : leastR e = 1 := by rw [leastR, hl]; rfl
  have hL : leastL e = if x.kind = 12 ∧ x.oper = o then 0 else 1 := by
   rw [leastL, hl, if_neg (by decide), g0, ho];by_cases cc : x.kind = 12 ∧ x.oper = o
   ·rw [if_pos cc, if_neg (by rintro ⟨_, a | a⟩; exact a cc.1; exact a cc.2)]
   ·rw [if_neg cc, if_pos ⟨rfl, by by_cases c1 : x.kind = 12; exact .inr fun a => cc ⟨c1, a⟩; exact .inl c1⟩]
  rw [hR] at h1 h2 hle ⊢
  refine .of0 ⟨hat.1, hle⟩ hl fun hn => ?_;rw [hst, ho, Int.toNat_natCast];have hr1 := fun want hw => log_round (x := stE x) c13 ho2 hY h1 rfl hn want hw;by_cases cc : x.kind = 12 ∧ x.oper = o
  ·rw [hL, if_pos cc] at hat hr1 hhd ⊢
   have hpx : partE x 0 = toksE x := by
    rw [partE, decide_eq_false (by have := (level_ge x).1; omega)]; rfl
   rw [hpx] at hat hr1 hhd ⊢
   have r := hX _ hat.left;have hlx : levelE x = 0 := by
    unfold levelE;rw [cc.1, cc.2, if_neg (by decide), if_neg (by decide), if_pos rfl, if_pos (by omega)]
   rw [r.exp hlx (by rw [hhd]; exact hwn.2.2.2 c13), cc.2, Int.toNat_natCast, (hr1 0 (.inl rfl)).2]
  ·rw [hL, if_neg cc] at hat hr1 hhd ⊢
   have hrel := part1 hX hat.left rfl (by rw [hhd]; exact hwn.2.2.2 c13);rw [expr_rel hat.1, hrel];show p.restL (opF l 0 _ opsLog).1 (stE x) _ = _;rw [(hr1 0 (.inl rfl)).1, (hr1 0 (.inl rfl)).2]
 ·by_cases c7 : 7 ≤ o
  ·have hl : levelE e = 1 := by rw [hlv, if_neg c13, if_pos c7]
   have hR : leastR e = 2 := by rw [leastR, hl]; rfl
   have hL : leastL e = 2 := by rw [leastL, hl]; rfl
   rw [hL] at hat h1 h2 hhd hle ⊢
   rw [hR] at h1 h2 hle ⊢
   refine .of1 ⟨hat.1, hle⟩ hl fun hn => ?_;have s1 := part2s hX hat.left rfl (by rw [hhd]; exact hwn.2.2.1 c7 (by omega));have s2 := part2s hY h2 rfl (s2d hn);obtain ⟨q1, q2⟩ := op_at (want := 0) (.inl ⟨by simp [opsRel]; omega, rfl⟩) h1 (.inl rfl);rw [hst, relQ, s1];show p.relation (stE x) _ = _;rw [q_relation _ h1.1, q1, if_pos (by dsimp only; omega), s2]; rfl
  ·by_cases c2 : o ≤ 2
   ·have hl : levelE e = 2 := by rw [hlv, if_neg c13, if_neg c7, if_pos c2]
    have hR : leastR e = 3 := by rw [leastR, hl]; rfl
    have hL : leastL e = 2 := by rw [leastL, hl, if_neg (by decide), if_neg (by rintro ⟨a, _⟩; cases a)]
    rw [hL] at hat h1 h2 hhd hle ⊢
    rw [hR] at h1 h2 hle ⊢
    refine .of2 ⟨hat.1, hle⟩ hl fun hn => ?_;obtain ⟨q1, q2⟩ := op_at (want := 0) (.inr (.inr (.inl ⟨by simp [opsAdd]; omega, rfl⟩))) h1 (.inl rfl);rw [hst, part2 hX hat.left rfl (by rw [hhd]; exact hwn.1 (by omega)), q_addL _ h1.1, q1, if_neg (by dsimp only; omega)];show (p.term (_ + (wordsN o).length)).then _ = _
    rw [part3 hY h2 rfl (s53 hn), mulL_stop hle hn]; rfl
   ·have hl : levelE e = 3 := by rw [hlv, if_neg c13, if_neg c7, if_neg c2]
    have hR : leastR e = 4 := by rw [leastR, hl]; rfl
    have hL : leastL e = 3 := by rw [leastL, hl, if_neg (by decide), if_neg (by rintro ⟨a, _⟩; cases a)]
    rw [hL] at hat h1 h2 hhd hle ⊢
    rw [hR] at h1 h2 hle ⊢
    refine .of3 ⟨hat.1, hle⟩ hl fun hn => ?_;obtain ⟨q1, q2⟩ := op_at (want := 0) (.inr (.inr (.inr (.inl ⟨by simp [opsMul]; omega, rfl⟩)))) h1 (.inl rfl);rw [hst, part3 hX hat.left rfl (by rw [hhd]; exact hwn.2.1 (by omega)), q_mulL _ h1.1, q1, if_neg (by dsimp only; omega)];show (p.factor (_ + (wordsN o).length)).then _ = _
    rw [part4 hY h2 rfl hn]; rfl
theorem in_rd {j : Nat} {x : Ex} {kind : Int} (hkd : kind = 13 ∨ kind = 14) (h : e.kind = kind) (hx : (∃ y z, e.l = [x, y, z]) ∨ ∃ y, e.l = [x, y] ∧ namedE y = true) (b : e.oper = 0) (c : e.n = 0) (d : e.s = []) (d2 : e.a = []) (ha : At l j (tailE e)) (hk' : k' = j + (tailE e).length) (hn : nof w2d (tk l k')) :
  inK l (stE x) kind j p = .ok (stE e) k' := by
 rcases hx with ⟨y, z, hx⟩ | ⟨y, hx, hny⟩
 ·have hY := ih y (mem_parts_l (by rw [hx]; simp));have hZ := ih z (mem_parts_l (by rw [hx]; simp));have ht : tailE e = partE y 2 ++ wTok wDots :: partE z 2 := by unfold tailE pE tE; rw [hx]; rfl
  have hst : stE e = .mk kind 0 0 [] [stE x, stE y, stE z] [] 0 0 0 := by rw [stE_eq e, h, hx, b, c, d, d2]; rfl
  rw [ht] at ha hk';have h1 := ha.right;have h2 : At l (j + (partE y 2).length + 1) (partE z 2) := At.tail h1;have s1 := part2s hY ha.left rfl (by rw [h1.head.1]; decide +kernel);have s2 := part2s hZ h2 (k' := k') (by rw [hk', List.length_append, List.length_cons]; omega) (s2d hn);rw [inK, s1, okThen, if_pos (At.word h1), s2, okThen, hst, stE_line]
 ·have hY := ih y (mem_parts_l (by rw [hx]; simp));have ht : tailE e = toksE y := by unfold tailE pE tE; rw [hx]; rfl
  have hst : stE e = .mk kind 0 0 [] [stE x, stE y] [] 0 0 0 := by rw [stE_eq e, h, hx, b, c, d, d2]; rfl
  rw [ht] at ha hk';subst hk';have r := hY _ ha;have s1 : p.simple j = .ok (stE y) (j + (toksE y).length) := by
   rw [r.simp (by rw [named_level hny]; decide) (s32 (s2d hn)), addL_stop r.le.2 (s2d hn)]
  rw [inK, s1, okThen, nof_isW hn (by decide), if_neg (by simp), named_st, hny, if_pos rfl, hst, stE_line]
theorem rt134 (hkd : e.kind = 13 ∨ e.kind = 14) : RT l p e := by
 obtain ⟨hx', b, c, d, d2⟩ := ff134 hkd hf;have hx : ∃ x, (∃ y z, e.l = [x, y, z]) ∨ ∃ y, e.l = [x, y] ∧ namedE y = true := by
  rcases hx' with ⟨x, y, z, hx⟩ | ⟨x, y, hx⟩
  ·exact ⟨x, .inl ⟨y, z, hx⟩⟩
  ·exact ⟨x, .inr ⟨y, hx⟩⟩
 clear hx';obtain ⟨x, hx⟩ := hx;have g0 : e.l.getD 0 ex0 = x ∧ 0 < e.l.length := by rcases hx with ⟨y, z, hx⟩ | ⟨y, hx, _⟩ <;> (rw [hx]; exact ⟨rfl, by simp⟩)
 have hX := ih x (mem_parts_l (by rcases hx with ⟨y, z, hx⟩ | ⟨y, hx, _⟩ <;> (rw [hx]; simp)));have hl : levelE e = 1 := by unfold levelE; rw [if_pos hkd]
 have hp0 : pE e 0 2 = partE x 2 := by rw [pE_at g0.2, g0.1]
 intro k hat;rcases hkd with h | h
 ·rw [toks13 h, hp0] at hat ⊢
  have h1 := hat.right;have hw := At.word h1;have h2 : At l (k + (partE x 2).length + 1) (tailE e) := At.tail h1;have e1 : k + (partE x 2 ++ wTok wIn :: tailE e).length = k + (partE x 2).length + 1 + (tailE e).length := by rw [List.length_append, List.length_cons]; omega
  rw [e1];refine .of1 ⟨hat.1, h2.le⟩ hl fun hn => ?_;rw [relQ, part2s hX hat.left rfl (by rw [h1.head.1]; decide +kernel), okThen, q_relation _ h1.1, word_op hw (by decide), if_neg (by simp), if_pos hw];exact in_rd hf ih (.inl rfl) h hx b c d d2 h2 rfl hn
 ·rw [toks14 h, hp0] at hat ⊢
  have h1 := hat.right;have hw := At.word h1;have hw2 : isW l (k + (partE x 2).length) [wNot, wIn] = true := At.words (ws := [wNot, wIn]) h1;have h2 : At l (k + (partE x 2).length + 2) (tailE e) := At.tail (At.tail h1);have e1 : k + (partE x 2 ++ wTok wNot :: wTok wIn :: tailE e).length = k + (partE x 2).length + 2 + (tailE e).length := by rw [List.length_append, List.length_cons, List.length_cons]; omega
  rw [e1];refine .of1 ⟨hat.1, h2.le⟩ hl fun hn => ?_;rw [relQ, part2s hX hat.left rfl (by rw [h1.head.1]; decide +kernel), okThen, q_relation _ h1.1, word_op hw (by decide), if_neg (by simp), isW1_ne hw (t := wIn) (by decide), if_neg (by simp), if_pos hw2];exact in_rd hf ih (.inr rfl) h hx b c d d2 h2 rfl hn
end
theorem valid_fields {d : Nat} {e : Ex} (h : validE d e = true) : fieldsE e = true ∧ ∀ x ∈ parts e, validE (d + 1) x = true := by
 rw [validE_eq, Bool.and_eq_true, Bool.and_eq_true, List.all_eq_true] at h;exact ⟨h.1.2, h.2⟩
theorem rt_all {l : List Tok} {p : PS} [hr : Rdr l p] (hz : ∀ k, (tk l k).line = 0) (e : Ex) : ∀ d, validE d e = true → RT l p e := by
 refine Ex.ind (p := fun e => ∀ d, validE d e = true → RT l p e) (fun e ih d hv => ?_) e;obtain ⟨hf, hp⟩ := valid_fields hv;have ih' : ∀ x ∈ parts e, RT l p x := fun x hx => ih x hx _ (hp x hx);have hvp : ∀ x ∈ parts e, fieldsE x = true := fun x hx => (valid_fields (hp x hx)).1;by_cases c1 : e.kind = 1
 ·exact rt1 hz hf c1
 by_cases c2 : e.kind = 2
 ·exact rt2 hz hf c2
 by_cases c3 : e.kind = 3
 ·exact rt3 hz hf c3
 by_cases c4 : e.kind = 4
 ·exact rt4 hz hf ih' c4
 by_cases c5 : e.kind = 5
 ·exact rt5 hz hf ih' c5
 by_cases c6 : e.kind = 6
 ·exact rt6 hz hf ih' c6
 by_cases c7 : e.kind = 7
 ·exact rt7 hz hf ih' hvp c7
 by_cases c8 : e.kind = 8
 ·exact rt8 hz hf ih' c8
 by_cases c9 : e.kind = 9
 ·exact rt9 hz hf ih' c9
 by_cases c10 : e.kind = 10
 ·exact rt10 hz hf ih' c10
 by_cases c11 : e.kind = 11
 ·exact rt11 hz hf ih' c11
 by_cases c12 : e.kind = 12
 ·exact rt12 hf ih' c12
 by_cases c13 : e.kind = 13 ∨ e.kind = 14
 ·exact rt134 hf ih' c13
 exfalso;have : fieldsE e = false := by
  unfold fieldsE;rw [if_neg c1, if_neg c2, if_neg c3, if_neg (by omega), if_neg c5, if_neg c7, if_neg c8, if_neg c9, if_neg c10, if_neg c11, if_neg c12, if_neg c13]
 rw [this] at hf; cases hf
end Go.Dl
