/- The data level and the contracts of the functions that are reached (part 9). -/
import Derived.Test.YtfekogpdmjbdkaaGreatDoorPth
set_option linter.unusedSimpArgs false
set_option linter.unusedVariables false
set_option linter.unusedSectionVars false
-- Chapter 3: what was read fits into a machine.
namespace Go.Dl
open Go Go.Proofs
set_option maxRecDepth 100000
section
variable {l : List Tok}
theorem bigAs_snoc (a : As) : ∀ l : List As, bigAs (l ++ [a]) = bigAs l + bigA a
 | [] => by simp [bigAs]
 | x :: l => by rw [List.cons_append, bigAs, bigAs, bigAs_snoc a l]; omega
theorem bigCs_snoc (a : Ch) : ∀ l : List Ch, bigCs (l ++ [a]) = bigCs l + bigC a
 | [] => by simp [bigCs]
 | x :: l => by rw [List.cons_append, bigCs, bigCs, bigCs_snoc a l]; omega
theorem okAs_snoc (a : As) : ∀ l : List As, okAs (l ++ [a]) ↔ okAs l ∧ okA a
 | [] => by simp [okAs]
 | x :: l => by rw [List.cons_append, okAs, okAs, okAs_snoc a l]; exact and_assoc.symm
theorem okCs_snoc (a : Ch) : ∀ l : List Ch, okCs (l ++ [a]) ↔ okCs l ∧ okC a
 | [] => by simp [okCs]
 | x :: l => by rw [List.cons_append, okCs, okCs, okCs_snoc a l]; exact and_assoc.symm
def FE (k : Nat) (x : Ex) (k' : Nat) : Prop := bigE x + 1 + 2 * k ≤ 2 * k' ∧ okE x
def FL (k : Nat) (x y : Ex) (k' : Nat) : Prop := bigE y + 2 * k ≤ bigE x + 2 * k' ∧ okE y
structure PS.Fits (l : List Tok) (p : PS) : Prop where
 expr : ∀ k, k ≤ l.length → Post (FE k) (p.expr k)
 rest : ∀ x k, k ≤ l.length → okE x → Post (FL k x) (p.rest x k)
 restL : ∀ o x k, k ≤ l.length → okE x → Post (FL k x) (p.restL o x k)
 relation : ∀ x k, k ≤ l.length → okE x → Post (FL k x) (p.relation x k)
 simple : ∀ k, k ≤ l.length → Post (FE k) (p.simple k)
 addL : ∀ x k, k ≤ l.length → okE x → Post (FL k x) (p.addL x k)
 term : ∀ k, k ≤ l.length → Post (FE k) (p.term k)
 mulL : ∀ x k, k ≤ l.length → okE x → Post (FL k x) (p.mulL x k)
 factor : ∀ k, k ≤ l.length → Post (FE k) (p.factor k)
 primary : ∀ k, k ≤ l.length → Post (FE k) (p.primary k)
 paren : ∀ k, k ≤ l.length → Post (FE k) (p.paren k)
 assoc : ∀ k, k ≤ l.length → Post (fun x k' => bigA x + 1 + 2 * k ≤ 2 * k' ∧ okA x) (p.assoc k)
 assocsL : ∀ a k, k ≤ l.length → okAs a → Post (fun b k' => bigAs b + 2 * k ≤ bigAs a + 2 * k' ∧ okAs b) (p.assocsL a k)
 choice : ∀ k, k ≤ l.length → Post (fun x k' => bigC x + 2 * k ≤ 2 * k' ∧ okC x) (p.choice k)
 choicesL : ∀ a k, k ≤ l.length → okCs a → Post (fun b k' => bigCs b + 2 * k ≤ bigCs a + 2 * k' ∧ okCs b) (p.choicesL a k)
 arg : ∀ k, k ≤ l.length → Post (fun x k' => bigA x + 1 + 2 * k ≤ 2 * k' ∧ okA x) (p.arg k)
 argsL : ∀ a k, k ≤ l.length → okAs a → Post (fun b k' => bigAs b + 2 * k ≤ bigAs a + 2 * k' ∧ okAs b) (p.argsL a k)
 name : ∀ k, k ≤ l.length → Post (FE k) (p.name k)
 nameL : ∀ i x k, k ≤ l.length → okE x → Post (FL k x) (p.nameL i x k)
theorem big_both (o : Nat) (x y : Ex) : bigE (both o x y) = 1 + bigE x + bigE y := by
 rw [both, bigE]; simp only [bigL, bigAs]; omega
theorem ok_both {o : Nat} {x y : Ex} (h1 : okE x) (h2 : okE y) : okE (both o x y) := by
 rw [both, okE]; simp only [okL, okAs]; exact ⟨by decide, ⟨h1, h2, trivial⟩, trivial⟩
theorem big_mona (o : Nat) (x : Ex) (li : Int) : bigE (mona o li x) = if o = 0 then bigE x else 1 + bigE x := by
 unfold mona; split
 ·rfl
 ·rw [bigE]; simp only [bigL, bigAs]; omega
theorem ok_mona {o : Nat} {x : Ex} {li : Int} (h1 : okE x) : okE (mona o li x) := by
 unfold mona; split
 ·exact h1
 ·rw [okE]; simp only [okL, okAs]; exact ⟨by decide, ⟨h1, trivial⟩, trivial⟩
theorem stepP_fits (hT : ∀ k, (tk l k).text.length ≤ 9223372036854775807) {p : PS} (h : p.Fits l) (hA : p.Adv l) : (stepP l p).Fits l where
 expr k hk := post_then (post_and (h.simple k hk) (adv_post (hA.simple k hk))) fun x m ⟨h1, h2⟩ y k' e => by
  obtain ⟨g1, g2⟩ := h.rest x m h2.2 h1.2 y k' e
  exact ⟨by have := h1.1; omega, g2⟩
 rest x k hk hx := post_then (post_and (h.relation x k hk hx) (adv_post (hA.relation x k hk))) fun y m ⟨h1, h2⟩ z k' e => by
  obtain ⟨g1, g2⟩ := h.restL _ y m h2.2 h1.2 z k' e
  exact ⟨by have := h1.1; omega, g2⟩
 restL o x k hk hx := by
  dsimp only [stepP]
  split
  ·exact post_ok ⟨Nat.le_refl _, hx⟩
  ·obtain ⟨q1, q2, q3, q4⟩ := opF_adv (want := o) ops_ok.1 hk
   split
   ·exact post_ok ⟨Nat.le_refl _, hx⟩
   ·rename_i hq
    have := q2 hq
    refine post_then (post_and (h.simple _ q3) (adv_post (hA.simple _ q3))) fun y j ⟨h1, h2⟩ => post_then (post_and (h.relation y j h2.2 h1.2) (adv_post (hA.relation y j h2.2))) fun z i ⟨h3, h4⟩ w k' e => ?_
    obtain ⟨g1, g2⟩ := h.restL o (both o x z) i h4.2 (ok_both hx h3.2) w k' e
    rw [big_both] at g1
    have := h1.1
    have := h3.1
    exact ⟨by omega, g2⟩
 relation x k hk hx := by
  dsimp only [stepP]
  obtain ⟨q1, q2, q3, q4⟩ := opF_adv (want := 0) ops_ok.2.1 hk
  have hin : ∀ (kind : Int) (j : Nat), k + 1 ≤ j → j ≤ l.length → Post (FL k x) (inK l x kind j p) := fun kind j hkj hj => by
   refine post_then (post_and (h.simple _ hj) (adv_post (hA.simple _ hj))) fun y i ⟨h1, h2⟩ => ?_
   have := h1.1
   split
   ·rename_i hw
    have j1 := isW_lt hw h2.2
    simp only [List.length_cons, List.length_nil] at j1
    refine post_then (h.simple _ j1) fun z n h3 => post_ok ⟨?_, ?_⟩
    ·have := h3.1
     rw [bigE]; simp only [bigL, bigAs]; omega
    ·rw [okE]; simp only [okL, okAs]; exact ⟨by decide, ⟨hx, h1.2, h3.2, trivial⟩, trivial⟩
   ·split
    ·refine post_ok ⟨?_, ?_⟩
     ·rw [bigE]; simp only [bigL, bigAs]; omega
     ·rw [okE]; simp only [okL, okAs]; exact ⟨by decide, ⟨hx, h1.2, trivial⟩, trivial⟩
    ·exact post_fail
  split
  ·rename_i hq
   have := q2 hq
   refine post_then (h.simple _ q3) fun y j h1 => post_ok ⟨?_, ok_both hx h1.2⟩
   have := h1.1
   rw [big_both]; omega
  ·split
   ·rename_i hw
    have j1 := isW_lt hw hk
    simp only [List.length_cons, List.length_nil] at j1
    exact hin _ _ (by omega) j1
   ·split
    ·rename_i hw
     have j1 := isW_lt hw hk
     simp only [List.length_cons, List.length_nil] at j1
     exact hin _ _ (by omega) j1
    ·exact post_ok ⟨Nat.le_refl _, hx⟩
 simple k hk := by
  obtain ⟨q1, q2, q3, q4⟩ := opF_adv (want := 0) ops_ok.2.2.1 hk
  refine post_then (post_and (h.term _ q3) (adv_post (hA.term _ q3))) fun x j ⟨h1, h2⟩ y k' e => ?_
  obtain ⟨g1, g2⟩ := h.addL _ j h2.2 (ok_mona h1.2) y k' e
  have := h1.1
  rw [big_mona] at g1
  refine ⟨?_, g2⟩
  by_cases c : (opF l 0 k opsSign).1 = 0
  ·rw [if_pos c] at g1; omega
  ·have := q2 c
   rw [if_neg c] at g1; omega
 addL x k hk hx := by
  dsimp only [stepP]
  obtain ⟨q1, q2, q3, q4⟩ := opF_adv (want := 0) ops_ok.2.2.2.1 hk
  split
  ·exact post_ok ⟨Nat.le_refl _, hx⟩
  ·rename_i hq
   have := q2 hq
   refine post_then (post_and (h.term _ q3) (adv_post (hA.term _ q3))) fun y j ⟨h1, h2⟩ z k' e => ?_
   obtain ⟨g1, g2⟩ := h.addL _ j h2.2 (ok_both hx h1.2) z k' e
   have := h1.1
   rw [big_both] at g1
   exact ⟨by omega, g2⟩
 term k hk := post_then (post_and (h.factor k hk) (adv_post (hA.factor k hk))) fun x j ⟨h1, h2⟩ y k' e => by
  obtain ⟨g1, g2⟩ := h.mulL x j h2.2 h1.2 y k' e
  have := h1.1
  exact ⟨by omega, g2⟩
 mulL x k hk hx := by
  dsimp only [stepP]
  obtain ⟨q1, q2, q3, q4⟩ := opF_adv (want := 0) ops_ok.2.2.2.2.1 hk
  split
  ·exact post_ok ⟨Nat.le_refl _, hx⟩
  ·rename_i hq
   have := q2 hq
   refine post_then (post_and (h.factor _ q3) (adv_post (hA.factor _ q3))) fun y j ⟨h1, h2⟩ z k' e => ?_
   obtain ⟨g1, g2⟩ := h.mulL _ j h2.2 (ok_both hx h1.2) z k' e
   have := h1.1
   rw [big_both] at g1
   exact ⟨by omega, g2⟩
 factor k hk := by
  obtain ⟨q1, q2, q3, q4⟩ := opF_adv (want := 0) ops_ok.2.2.2.2.2 hk
  refine post_then (h.primary _ q3) fun x j h1 => post_ok ⟨?_, ok_mona h1.2⟩
  have := h1.1
  rw [big_mona]
  by_cases c : (opF l 0 k opsFac).1 = 0
  ·rw [if_pos c]; omega
  ·have := q2 c
   rw [if_neg c]; omega
 primary k hk := by
  dsimp only [stepP]
  split
  ·exact post_ok ⟨by rw [bigE]; simp only [bigL, bigAs]; omega, by rw [okE]; exact ⟨by decide, trivial, trivial⟩⟩
  ·split
   ·exact post_ok ⟨by rw [bigE]; simp only [bigL, bigAs]; omega, by rw [okE]; exact ⟨by decide, trivial, trivial⟩⟩
   ·split
    ·exact h.paren k hk
    ·exact h.name k hk
 paren k hk := by
  dsimp only [stepP]
  refine post_must fun hw => ?_
  have hk1 := isW_lt hw hk
  simp only [List.length_cons, List.length_nil] at hk1
  split
  ·rename_i hw2
   have hk2 := isW_lt hw2 hk1
   simp only [List.length_cons, List.length_nil] at hk2
   refine post_then (post_and (h.expr _ hk2) (adv_post (hA.expr _ hk2))) fun a i1 ⟨g1, g2⟩ => post_must fun w1 => ?_
   have j1 := isW_lt w1 g2.2
   refine post_then (post_and (h.expr _ j1) (adv_post (hA.expr _ j1))) fun b i2 ⟨g3, g4⟩ => post_must fun w2 => ?_
   have j2 := isW_lt w2 g4.2
   refine post_then (post_and (h.expr _ j2) (adv_post (hA.expr _ j2))) fun c i3 ⟨g5, g6⟩ => post_must fun w3 => post_ok ⟨?_, ?_⟩
   ·have := g1.1; have := g3.1; have := g5.1
    rw [bigE]; simp only [bigL, bigAs]; omega
   ·rw [okE]; simp only [okL, okAs]; exact ⟨by decide, ⟨g1.2, g3.2, g5.2, trivial⟩, trivial⟩
  ·refine post_then (post_and (h.assoc _ hk1) (adv_post (hA.assoc _ hk1))) fun a i1 ⟨g1, g2⟩ => post_then (post_and (h.assocsL [a] i1 g2.2 ⟨g1.2, trivial⟩) (adv_post (hA.assocsL [a] i1 g2.2))) fun b i2 ⟨g3, g4⟩ => post_must fun w1 => post_ok ?_
   have g1' := g1.1
   have g3' := g3.1
   simp only [bigAs] at g3'
   have key : ∀ li, FE k (.mk 9 0 0 [] [] b li 0 0) (i2 + 1) := fun li => ⟨by rw [bigE]; simp only [bigL]; omega, by rw [okE]; exact ⟨by decide, trivial, g3.2⟩⟩
   match b, g3, g3', key with
   | [], g3, _, key => exact key _
   | x :: y :: r, g3, _, key => exact key _
   | [x], g3, g3', key =>
    show FE k (if x.c = [] then x.e else _) _
    split
    ·simp only [bigAs] at g3'
     have h6 := bigA_eq x
     have h5 := g3.2
     simp only [okAs] at h5
     exact ⟨by omega, (okA_eq.1 h5.1).2⟩
    ·exact key _
 assoc k hk := by
  refine post_then (post_and (h.choice k hk) (adv_post (hA.choice k hk))) fun c i1 ⟨⟨g1, g1'⟩, g2⟩ => ?_
  rw [bigC_eq] at g1
  split
  ·refine post_ok ?_
   rw [okC_eq] at g1'
   rw [bigA, okA]
   simp only [bigCs, okCs]
   obtain ⟨m, hm⟩ : ∃ m, m = c.l := ⟨_, rfl⟩
   rw [← hm] at g1 g1' ⊢
   cases m with
   | nil => exact ⟨by show 0 + bigE ex0 + 1 + 2 * k ≤ _; rw [show bigE ex0 = 1 from rfl]; omega, trivial, by simp [ex0, okE, okL, okAs]⟩
   | cons x r =>
    rw [bigL] at g1
    rw [okL] at g1'
    exact ⟨by show 0 + bigE x + 1 + 2 * k ≤ _; omega, trivial, g1'.1⟩
  ·split
   ·refine post_must fun w1 => ?_
    have j1 := isW_lt w1 g2.2
    simp only [List.length_cons, List.length_nil] at j1
    refine post_then (h.expr _ j1) fun e i2 g3 => post_ok ⟨?_, ?_⟩
    ·have := g3.1
     rw [bigA]; simp only [bigCs, bigC_eq]; omega
    ·rw [okA]; exact ⟨⟨g1', trivial⟩, g3.2⟩
   ·refine post_then (post_and (h.choicesL [c] i1 g2.2 ⟨g1', trivial⟩) (adv_post (hA.choicesL [c] i1 g2.2))) fun b i2 ⟨⟨g3, g3'⟩, g4⟩ => post_must fun w1 => ?_
    have j1 := isW_lt w1 g4.2
    simp only [List.length_cons, List.length_nil] at j1
    refine post_then (h.expr _ j1) fun e i3 g5 => post_ok ⟨?_, ?_⟩
    ·have := g5.1
     simp only [bigCs, bigC_eq] at g3
     rw [bigA]; omega
    ·rw [okA]; exact ⟨g3', g5.2⟩
 assocsL a k hk ha := by
  dsimp only [stepP]
  split
  ·rename_i hw
   have := isW_lt hw hk
   simp only [List.length_cons, List.length_nil] at this
   refine post_then (post_and (h.assoc _ this) (adv_post (hA.assoc _ this))) fun x n ⟨h1, h2⟩ y k' e => ?_
   obtain ⟨g, g'⟩ := h.assocsL _ n h2.2 ((okAs_snoc _ _).2 ⟨ha, h1.2⟩) y k' e
   rw [bigAs_snoc] at g
   have := h1.1
   exact ⟨by omega, g'⟩
  ·exact post_ok ⟨Nat.le_refl _, ha⟩
 choice k hk := by
  dsimp only [stepP]
  split
  ·exact post_ok ⟨by rw [bigC]; simp only [bigL]; omega, by rw [okC]; trivial⟩
  ·refine post_then (post_and (h.simple k hk) (adv_post (hA.simple k hk))) fun x i1 ⟨g1, g2⟩ => ?_
   have := g1.1
   split
   ·rename_i hw
    have j1 := isW_lt hw g2.2
    simp only [List.length_cons, List.length_nil] at j1
    refine post_then (h.simple _ j1) fun y i2 g3 => post_ok ⟨?_, ?_⟩
    ·have := g3.1
     rw [bigC]; simp only [bigL]; omega
    ·rw [okC]; exact ⟨g1.2, g3.2, trivial⟩
   ·refine post_then (h.rest x i1 g2.2 g1.2) fun y i2 g3 => post_ok ⟨?_, ?_⟩
    ·have := g3.1
     rw [bigC]; simp only [bigL]; omega
    ·rw [okC]; exact ⟨g3.2, trivial⟩
 choicesL a k hk ha := by
  dsimp only [stepP]
  split
  ·rename_i hw
   have := isW_lt hw hk
   simp only [List.length_cons, List.length_nil] at this
   refine post_then (post_and (h.choice _ this) (adv_post (hA.choice _ this))) fun x n ⟨h1, h2⟩ y k' e => ?_
   obtain ⟨g, g'⟩ := h.choicesL _ n h2.2 ((okCs_snoc _ _).2 ⟨ha, h1.2⟩) y k' e
   rw [bigCs_snoc] at g
   have := h1.1
   exact ⟨by omega, g'⟩
  ·exact post_ok ⟨Nat.le_refl _, ha⟩
 arg k hk := by
  dsimp only [stepP]
  split
  ·rename_i hw
   have j0 := tk_lt (l := l) (k := k) (by rw [hw.1]; decide)
   have j1 := isW_lt hw.2 j0
   simp only [List.length_cons, List.length_nil] at j1
   refine post_then (h.expr _ j1) fun e i1 g1 => post_ok ⟨?_, ?_⟩
   ·have := g1.1
    rw [bigA]; simp only [bigCs, bigC, bigL, bigE, bigAs]; omega
   ·rw [okA]; simp only [okCs, okC, okL, okE, okAs]; exact ⟨⟨⟨⟨hT k, trivial, trivial⟩, trivial⟩, trivial⟩, g1.2⟩
  ·refine post_then (h.expr k hk) fun e i1 g1 => post_ok ⟨?_, ?_⟩
   ·have := g1.1
    rw [bigA]; simp only [bigCs]; omega
   ·rw [okA]; exact ⟨trivial, g1.2⟩
 argsL a k hk ha := by
  dsimp only [stepP]
  split
  ·rename_i hw
   have := isW_lt hw hk
   simp only [List.length_cons, List.length_nil] at this
   refine post_then (post_and (h.arg _ this) (adv_post (hA.arg _ this))) fun x n ⟨h1, h2⟩ y k' e => ?_
   obtain ⟨g, g'⟩ := h.argsL _ n h2.2 ((okAs_snoc _ _).2 ⟨ha, h1.2⟩) y k' e
   rw [bigAs_snoc] at g
   have := h1.1
   exact ⟨by omega, g'⟩
  ·exact post_ok ⟨Nat.le_refl _, ha⟩
 name k hk := by
  dsimp only [stepP]
  refine post_take fun hkd => ?_
  have j0 := tk_lt (l := l) (k := k) (by rw [hkd]; decide)
  intro x k' e
  obtain ⟨g, g'⟩ := h.nameL _ (.mk 3 0 0 (tk l k).text [] [] (tk l k).line 0 0) (k + 1) j0 (by rw [okE]; exact ⟨hT k, trivial, trivial⟩) x k' e
  rw [bigE] at g
  simp only [bigL, bigAs] at g
  exact ⟨by omega, g'⟩
 nameL i x k hk hx := by
  have hn : ∀ (y : Ex) (j : Nat), j ≤ l.length → okE y → bigE y + 2 * k ≤ bigE x + 2 * j → Post (FL k x) (p.nameL i y j) := fun y j hj hy hl z k' e => by
   obtain ⟨g, g'⟩ := h.nameL i y j hj hy z k' e
   exact ⟨by omega, g'⟩
  dsimp only [stepP]
  split
  ·rename_i hw
   have j1 := isW_lt hw hk
   simp only [List.length_cons, List.length_nil] at j1
   refine hn _ _ j1 ?_ ?_
   ·rw [okE]; exact ⟨by decide, ⟨hx, trivial⟩, trivial⟩
   ·rw [bigE]; simp only [bigL, bigAs]; omega
  ·split
   ·rename_i hw
    have j1 := isW_lt hw hk
    refine post_take fun hkd => ?_
    have j2 := tk_lt (l := l) (k := k + 1) (by rw [hkd]; decide)
    refine hn _ _ j2 ?_ ?_
    ·rw [okE]; exact ⟨hT _, ⟨hx, trivial⟩, trivial⟩
    ·rw [bigE]; simp only [bigL, bigAs]; omega
   ·split
    ·rename_i hw
     have j1 := isW_lt hw hk
     simp only [List.length_cons, List.length_nil] at j1
     refine post_then (post_and (h.arg _ j1) (adv_post (hA.arg _ j1))) fun a i1 ⟨g1, g2⟩ => post_then (post_and (h.argsL [a] i1 g2.2 ⟨g1.2, trivial⟩) (adv_post (hA.argsL [a] i1 g2.2))) fun b i2 ⟨g3, g4⟩ => post_must fun w1 => ?_
     have j2 := isW_lt w1 g4.2
     have g1' := g1.1
     have g3' := g3.1
     simp only [bigAs] at g3'
     refine hn _ _ j2 ?_ ?_
     ·rw [okE]; exact ⟨by decide, ⟨hx, trivial⟩, g3.2⟩
     ·rw [bigE]; simp only [bigL]; omega
    ·split
     ·rename_i hw
      have j1 := isW_lt hw hk
      simp only [List.length_cons, List.length_nil] at j1
      have j2 : k + 1 ≤ l.length := by omega
      refine post_then (post_and (h.paren _ j2) (adv_post (hA.paren _ j2))) fun y i1 ⟨g1, g2⟩ => ?_
      have g1' := g1.1
      refine hn _ _ g2.2 ?_ ?_
      ·rw [okE]; exact ⟨by decide, ⟨hx, g1.2, trivial⟩, trivial⟩
      ·rw [bigE]; simp only [bigL, bigAs]; omega
     ·split
      ·rename_i hw
       have j1 := isW_lt hw hk
       refine post_take fun hkd => ?_
       have j2 := tk_lt (l := l) (k := k + 1) (by rw [hkd]; decide)
       refine hn _ _ j2 ?_ ?_
       ·rw [okE]; exact ⟨hT _, ⟨hx, trivial⟩, trivial⟩
       ·rw [bigE]; simp only [bigL, bigAs]; omega
      ·exact post_ok ⟨Nat.le_refl _, hx⟩
theorem P_fits (hT : ∀ k, (tk l k).text.length ≤ 9223372036854775807) : ∀ n, (P l n).Fits l
 | 0 => by constructor <;> intros <;> intro x k' e <;> cases e
 | n + 1 => stepP_fits hT (P_fits hT n) (P_adv n)
end
end Go.Dl

-- Chapter 3: the package's Front, FrontArgs, FrontChoices.
namespace Go.Dl
open Go Go.Proofs
set_option maxRecDepth 100000
def lvlR (l : List Tok) : Nat → Res Ex
 | 0 => (Q l).expr 0
 | 1 => ((Q l).simple 0).then fun x k => (Q l).relation x k
 | 2 => (Q l).simple 0
 | 3 => (Q l).term 0
 | 4 => (Q l).factor 0
 | 5 => (Q l).primary 0
 | _ => (Q l).name 0
def frontP (l : List Tok) (level : Int) : Ex × Int × Int :=
 if level < 0 ∨ 7 ≤ level then (ex0, 0, 2) else match lvlR l level.toNat with
  | .ok x k => if mayE x then (x, k, 0) else (ex0, 0, 3)
  | .fail k => (ex0, k, 30)
  | .bot => (ex0, 0, 0)
section
variable {l : List Tok}
theorem lvl_ne (j : Nat) : lvlR l j ≠ .bot := by
 have t := Q_tot (l := l);have f' : ∀ {k a : Nat}, a ≤ 7 → 8 * (l.length - k) + a ≤ fuel l := fun {k a} ha => by unfold fuel; omega
 unfold lvlR;split
 ·exact t.expr _ (by omega) (f' (by omega))
 ·exact then_ne (t.simple _ (by omega) (f' (by omega))) (Q_adv.simple 0 (by omega)) fun x n _ h => t.relation _ _ h (f' (by omega))
 ·exact t.simple _ (by omega) (f' (by omega))
 ·exact t.term _ (by omega) (f' (by omega))
 ·exact t.factor _ (by omega) (f' (by omega))
 ·exact t.primary _ (by omega) (f' (by omega))
 ·exact t.name _ (by omega) (f' (by omega))
theorem lvl_adv (j : Nat) : Adv l 1 (lvlR l j) := by
 have t := Q_adv (l := l);unfold lvlR;split
 ·exact t.expr _ (by omega)
 ·exact adv_then (t.simple _ (by omega)) fun x n h1 h => adv_less (t.relation x n h) h1
 ·exact t.simple _ (by omega)
 ·exact t.term _ (by omega)
 ·exact t.factor _ (by omega)
 ·exact t.primary _ (by omega)
 ·exact t.name _ (by omega)
def TokFit (l : List Tok) : Prop := ∀ k, (tk l k).text.length ≤ 9223372036854775807
theorem lvl_fits (hT : TokFit l) (j : Nat) : Post (FE 0) (lvlR l j) := by
 have t := P_fits hT (fuel l);change (Q l).Fits l at t;unfold lvlR;split
 ·exact t.expr _ (by omega)
 ·exact post_then (post_and (t.simple _ (by omega)) (adv_post (Q_adv.simple _ (by omega)))) fun x n ⟨h1, h2⟩ y k' e => by
   obtain ⟨g, g'⟩ := t.relation x n h2.2 h1.2 y k' e;have := h1.1;exact ⟨by omega, g'⟩
 ·exact t.simple _ (by omega)
 ·exact t.term _ (by omega)
 ·exact t.factor _ (by omega)
 ·exact t.primary _ (by omega)
 ·exact t.name _ (by omega)
end
section
variable {G : Nat → DVal} {l : List Tok}
theorem front1_spec (hG : GX G) (hl : l.length ≤ 800000) (r : Nat) (H : DHeap) (hr : H r = some (rdO l 0)) : DCalls Tryz.prog G 63 [.optr r 0] H (RdR r l H ((lvlR l 1).mp dE)) := by
 have ha := rd_at (r := r) hG hl (fuel l);have hne := lvl_ne (l := l) 1;refine dcalls_intro Tryz.func63 Tryz.call63 rfl (by kernel_rfl) ?_;simp (disch := omega) only [go_sem];intro r2 hr2; dsimp only at hr2;have n2 : r ≠ r2 := none_ne hr2 hr;have q2 := n2.symm;simp (disch := omega) only [go_sem];have h0 : RAt r l 0 H (upd H r2 (some (.cells [.int .u8 0, .int .u8 0, .int .i64 0, .str [], .nilSlice, .nilSlice, .int .i64 0, .int .i64 0, .int .i64 0] 27))) := (RAt.refl hr).new hr2 _;have hp := ha.simple _ 0 h0.get (by omega);have had := Q_adv.simple (l := l) 0 (by omega);unfold lvlR at hne ⊢
 dsimp only at hp;change ((P l (fuel l)).simple 0).then _ ≠ _ at hne
 change DCalls _ _ _ _ _ _;cases hc : (P l (fuel l)).simple 0 with
 | bot => rw [hc] at hne; exact absurd rfl hne
 | fail k =>
  rw [hc] at hp;refine (hp (mp_ne (by simp))).mono ?_;rintro e H4 ⟨rfl, rfl⟩;simp (disch := omega) only [go_sem];have : (Q l).simple 0 = .fail k := hc;rw [this];exact RAt.finP (h0.set k) ⟨rfl, rfl⟩
 | ok x k =>
  rw [hc] at hp hne;have hq : (Q l).simple 0 = .ok x k := hc;rw [hq] at had;refine (hp (mp_ne (by simp))).mono ?_;rintro e H4 ⟨rfl, hH4⟩;have h4 : RAt r l k H H4 := by rw [hH4]; exact h0.set k
  have g4 : H4 r2 = some (.cells [.int .u8 0, .int .u8 0, .int .i64 0, .str [], .nilSlice, .nilSlice, .int .i64 0, .int .i64 0, .int .i64 0] 27) := by rw [hH4]; exact keepU (upd_same _ _ _) q2
  simp (disch := omega) only [go_sem, dE];have hp2 := ha.relation x H4 k h4.get had.2;dsimp only at hp2;rw [hq, then_ok];change (P l (fuel l)).relation x k ≠ _ at hne;cases hc2 : (P l (fuel l)).relation x k with
  | bot => exact absurd hc2 hne
  | fail k2 =>
   rw [hc2] at hp2;refine (hp2 (mp_ne (by simp))).mono ?_;rintro e H5 ⟨rfl, rfl⟩;simp (disch := omega) only [go_sem];have : (Q l).relation x k = .fail k2 := hc2;rw [this];exact RAt.finP (h4.set k2) ⟨rfl, rfl⟩
  | ok y k2 =>
   rw [hc2] at hp2;refine (hp2 (mp_ne (by simp))).mono ?_;rintro e H5 ⟨rfl, hH5⟩;have h5 : RAt r l k2 H H5 := by rw [hH5]; exact h4.set k2
   have g5 : H5 r2 = some (.cells [.int .u8 0, .int .u8 0, .int .i64 0, .str [], .nilSlice, .nilSlice, .int .i64 0, .int .i64 0, .int .i64 0] 27) := by rw [hH5]; exact keepU g4 q2
   have hly := dEx_len y;have hoy := dEx_one y;simp (disch := omega) only [go_sem, dE, g5, hly, hoy];have : (Q l).relation x k = .ok y k2 := hc2;rw [this];exact RAt.fin (h5.own hr2 q2 _) ⟨rfl, rfl⟩
theorem lvl_calls (hG : GX G) (hl : l.length ≤ 800000) (j : Nat) (hj : j < 7) : ∃ g, ([.func (.func 62) [] [], .func (.func 63) [] [], .func (.func 65) [] [], .func (.func 66) [] [], .func (.func 67) [] [], .func (.func 68) [] [], .func (.func 69) [] []] : List DVal)[j]? = some (.func (.func g) [] []) ∧ ∀ r H, H r = some (rdO l 0) → DCalls Tryz.prog G g [.optr r 0] H (RdR r l H ((lvlR l j).mp dE)) := by
 have ha := fun r => rd_at (r := r) hG hl (fuel l);have hne := lvl_ne (l := l) j;have hj' : j = 0 ∨ j = 1 ∨ j = 2 ∨ j = 3 ∨ j = 4 ∨ j = 5 ∨ j = 6 := by omega
 rcases hj' with rfl | rfl | rfl | rfl | rfl | rfl | rfl
 ·exact ⟨_, rfl, fun r H hr => (ha r).expr H 0 hr (by omega) (mp_ne hne)⟩
 ·exact ⟨_, rfl, fun r H hr => front1_spec hG hl r H hr⟩
 ·exact ⟨_, rfl, fun r H hr => (ha r).simple H 0 hr (by omega) (mp_ne hne)⟩
 ·exact ⟨_, rfl, fun r H hr => (ha r).term H 0 hr (by omega) (mp_ne hne)⟩
 ·exact ⟨_, rfl, fun r H hr => (ha r).factor H 0 hr (by omega) (mp_ne hne)⟩
 ·exact ⟨_, rfl, fun r H hr => (ha r).primary H 0 hr (by omega) (mp_ne hne)⟩
 ·exact ⟨_, rfl, fun r H hr => (ha r).name H 0 hr (by omega) (mp_ne hne)⟩
def dFront (p : Ex × Int × Int) : DVal := .tuple [dE p.1, dI p.2.1, dI p.2.2]
theorem Seen.ex0 {H H' : DHeap} (hs : Sub H H') : Seen H' (.agg [.int .u8 0, .int .u8 0, .int .i64 0, .str [], .nilSlice, .nilSlice, .int .i64 0, .int .i64 0, .int .i64 0]) H (dE ex0) := Seen.agg (Seen.ex (l := []) (a := []) hs (.exs0 hs) (.as0 hs))
set_option maxHeartbeats 4000000 in
theorem front_spec (hG : GX G) (H : DHeap) (level : Int) (hl : l.length ≤ 800000) (hT : TokFit l) : DCalls Tryz.prog G 17 [dToks l, dI level] H (DRet (dFront (frontP l level)) H) := by
 refine dcalls_intro Tryz.func17 Tryz.call17 rfl (by kernel_rfl) ?_
 simp (disch := omega) only [go_sem]
 intro r4 hr4; dsimp only at hr4
 have hs4 := fun z => (Sub.refl H).new hr4 z
 simp (disch := omega) only [go_sem]
 intro r8 hr8; dsimp only at hr8
 have n48 : r4 ≠ r8 := none_ne hr8 (upd_same _ _ _)
 have m48 := n48.symm
 have hr8' : H r8 = none := (hs4 _).lo hr8
 simp (disch := omega) only [go_sem]
 have hs8 := fun y => ((Sub.refl H).new hr4 (some (.cells [.int .u8 0, .int .u8 0, .int .i64 0, .str [], .nilSlice, .nilSlice, .int .i64 0, .int .i64 0, .int .i64 0] 27))).new hr8 y
 by_cases c0 : level < 0
 ·simp (disch := omega) only [go_sem, c0, n48, m48]
  have hf : frontP l level = (ex0, 0, 2) := by rw [frontP, if_pos (.inl c0)]
  rw [hf]
  have hs := fun y z => ((hs8 y).up hr4 z)
  exact Seen.fin (hs _ _) (Seen.tuple (.cons (Seen.ex0 (hs _ _)) (Seens.keep (hs _ _) _))) ⟨rfl, rfl⟩
 ·by_cases c7 : 7 ≤ level
  ·simp (disch := omega) only [go_sem, c0, c7, n48, m48]
   have hf : frontP l level = (ex0, 0, 2) := by rw [frontP, if_pos (.inr c7)]
   rw [hf]
   have hs := fun y z => ((hs8 y).up hr4 z)
   exact Seen.fin (hs _ _) (Seen.tuple (.cons (Seen.ex0 (hs _ _)) (Seens.keep (hs _ _) _))) ⟨rfl, rfl⟩
  ·obtain ⟨j, hj⟩ : ∃ j : Nat, level = j := ⟨level.toNat, by omega⟩
   subst hj
   obtain ⟨g, hg1, hg2⟩ := lvl_calls (l := l) hG hl j (by omega)
   have hf : frontP l j = match lvlR l j with
    | .ok x k => if mayE x then (x, k, 0) else (ex0, 0, 3)
    | .fail k => (ex0, k, 30)
    | .bot => (ex0, 0, 0) := by rw [frontP, if_neg (by omega), Int.toNat_natCast]
   have hj7 : (j : Int) < 7 := by omega
   simp (disch := omega) only [go_sem, c0, c7, n48, m48, hg1, Int.toNat_natCast, hj7]
   refine (readE_spec hG _ hl g (lvlR l j) (lvl_ne j) hg2).mono ?_
   rintro _ H1 ⟨rfl, hH1⟩
   have had := lvl_adv (l := l) j
   have hfit := lvl_fits hT j
   have hs1 : Sub H H1 := by rw [hH1]; exact hs8 _
   have g14 : H1 r4 = some (.cells [.int .u8 0, .int .u8 0, .int .i64 0, .str [], .nilSlice, .nilSlice, .int .i64 0, .int .i64 0, .int .i64 0] 27) := by rw [hH1]; exact keepU (upd_same _ _ _) n48
   cases hres : lvlR l j with
   | bot => exact absurd hres (lvl_ne j)
   | fail k =>
    rw [hres] at hf
    rw [hf, readE]
    have hl0 := dEx_len ex0
    have ho0 := dEx_one ex0
    simp (disch := omega) only [go_sem, dE, g14, hl0, ho0]
    have hs := fun z => hs1.up hr4 z
    exact Seen.fin (hs _) (Seen.tuple (.cons (Seen.ex0 (hs _)) (Seens.keep (hs _) _))) ⟨rfl, rfl⟩
   | ok x k =>
    rw [hres] at hf hfit had
    rw [hf, readE]
    obtain ⟨hb, hok⟩ := hfit x k rfl
    have hk := had.2
    have hF : Fit x := ⟨by omega, hok⟩
    have hlx := dEx_len x
    have hox := dEx_one x
    simp (disch := omega) only [go_sem, dE, g14, hlx, hox]
    refine (may_spec hG _ x hF).mono ?_
    rintro _ H2 ⟨rfl, hH2⟩
    have g24 : H2 r4 = some (.cells (dEx x) 27) := by rw [hH2]; exact upd_same _ _ _
    have hs2 : Sub H H2 := by rw [hH2]; exact hs1.up hr4 _
    have hs := fun z => hs2.up hr4 z
    cases hm : mayE x with
    | true =>
     simp (disch := omega) only [go_sem, g24, hlx, hox]
     exact DFin.sub (hs _) (.refl ⟨rfl, rfl⟩)
    | false =>
     simp (disch := omega) only [go_sem, g24, hlx, hox]
     exact Seen.fin (hs _) (Seen.tuple (.cons (Seen.ex0 (hs _)) (Seens.keep (hs _) _))) ⟨rfl, rfl⟩
end
end Go.Dl

-- Chapter 3: the package's writer: words, names.
namespace Go.Dl
open Go Go.Proofs
set_option maxRecDepth 100000
def WAt (B : DHeap) (r : Nat) (ts : List Tok) (H : DHeap) : Prop := ∃ v, OwnJ (upd B r (some (.cells [v] 83))) 52 4 ts.length (ts.flatMap dTok) v H
def WrC (P : Program) (G : Nat → DVal) (f : FuncId) (args : List DVal) (t : List Tok) : Prop :=
 ∀ B r ts H, B r = none → ts.length + t.length ≤ 1000000000 → WAt B r ts H → DCalls P G f (.optr r 0 :: args) H (fun e H' => e = .ret (.tuple []) ∧ WAt B r (ts ++ t) H')
section
variable {B B1 H H' : DHeap} {r x : Nat} {ts : List Tok}
theorem WAt.keep (h : WAt B r ts H) {o : DObj} (hx : B x = some o) (n : x ≠ r) : H x = some o := by
 obtain ⟨v, h⟩ := h;exact h.keep (by rw [upd_ne _ _ _ _ n]; exact hx)
theorem WAt.lo (h : WAt B r ts H) (hx : H x = none) : B x = none ∧ x ≠ r := by
 obtain ⟨v, h⟩ := h;have := h.sub.lo hx;simp only [upd] at this;split at this
 ·cases this
 ·exact ⟨this, ‹_›⟩
theorem WAt.frame (h : WAt B r ts H) (hx : H x = none) (o : DObj) : WAt (upd B x (some o)) r ts (upd H x (some o)) := by
 have n := (h.lo hx).2;obtain ⟨v, h⟩ := h;refine ⟨v, ?_⟩;rw [upd_swap n.symm];exact h.frame hx o
theorem WAt.less (h : WAt B r ts H) (s : Sub B1 B) : WAt B1 r ts H := by
 obtain ⟨v, h⟩ := h;exact ⟨v, h.less (s.both r _)⟩
theorem WAt.drop {o : DObj} (h : WAt (upd B x (some o)) r ts H) (hx : B x = none) : WAt B r ts H := h.less ((Sub.refl B).new hx _)
end
section
variable {G : Nat → DVal} {H : DHeap}
theorem dToks_snoc (ts : List Tok) (t : Tok) : (ts ++ [t]).flatMap dTok = ts.flatMap dTok ++ dTok t := by simp
set_option maxHeartbeats 4000000 in
theorem put_spec (hG : GX G) (ws : List (List UInt8)) : WrC Tryz.prog G 107 [dW ws] (ws.map wTok) := by
 intro B r ts H hB hlen hw;rw [List.length_map] at hlen;refine dcalls_intro Tryz.func107 Tryz.call107 rfl (by kernel_rfl) ?_;simp (disch := omega) only [go_sem, dW];obtain ⟨I, hI⟩ : ∃ I : Nat → (Nat → DVal) → DHeap → Prop, ∀ j env heap, I j env heap ↔ (env 0 = .optr r 0 ∧ env 7 = dW ws ∧ env 8 = dI ws.length ∧ env 9 = dI j ∧ j ≤ ws.length ∧ WAt B r (ts ++ (ws.take j).map wTok) heap) := ⟨_, fun _ _ _ => Iff.rfl⟩;refine DLoop.run I (fun j => ws.length - j) 0 ((hI _ _ _).2 ?_) ?_
 ·simp (disch := omega) only [go_sem];(repeat' apply And.intro) <;> (try first | rfl | assumption | omega);simpa using hw
 ·intro j env heap hi;obtain ⟨e0, e7, e8, e9, hj, hwj⟩ := (hI _ _ _).1 hi;by_cases hlt : j < ws.length
  ·have hlt' : (j : Int) < (ws.length : Int) := by omega
   have hw1 : IntKind.i64.wrap ((j : Int) + 1) = ((j + 1 : Nat) : Int) := by rw [IntKind.wrap_i64]; omega
   have hget : (ws.map DVal.str)[j]? = some (.str ws[j]) := by rw [List.getElem?_map, List.getElem?_eq_getElem hlt]; rfl
   have hml : (ws.map DVal.str).length = ws.length := List.length_map _;have htk : (ws.take (j + 1)).map wTok = (ws.take j).map wTok ++ [wTok ws[j]] := by rw [List.take_add_one, List.getElem?_eq_getElem hlt, Option.toList_some, List.map_append, List.map_singleton]
   obtain ⟨s, hse⟩ : ∃ s, s = ws[j] := ⟨_, rfl⟩;rw [← hse] at hget htk;simp (disch := omega) only [go_sem, e0, e7, e8, e9, hlt', dW, hget, hml, Int.toNat_natCast];intro r6 hr6; dsimp only at hr6;simp (disch := omega) only [go_sem, e0, e7, e8, e9];obtain ⟨v, hv⟩ := hwj;have gr := hv.keep (upd_same _ _ _);have n6 : r ≠ r6 := none_ne hr6 gr;have m6 := n6.symm;have hl2 : (ts ++ (ws.take j).map wTok).length ≤ 1000000000 := by rw [List.length_append, List.length_map, List.length_take]; omega
   refine (key_spec hG _ s).mono ?_;rintro _ H2 ⟨rfl, rfl⟩;cases hkb : keyB s with
   | true =>
    have hk : wTok s = ⟨2, 0, s, 0⟩ := by rw [wTok, kindW, hkb]; rfl
    simp (disch := omega) only [go_sem, e0, e7, e8, e9];refine dwp_draws (by kernel_rfl) (.take 0 (.take 1 (.take 2 (.take 3 (.take 4 (.take 5 (.go 6 [4] (.go 7 [] (.take 8 (.take 9 (.go 10 [] .done))))))))))) (by kernel_rfl) ?_;simp (disch := omega) only [go_sem, e0, e7, e8, e9, gr, n6, m6];intro r24 hr24; dsimp only at hr24;have n24 : r ≠ r24 := none_ne hr24 (keepU gr n6);have m24 := n24.symm;have hv6 := (hv.new hr6 _).new hr24 (some (.cells (dTok (wTok s)) 52));simp (disch := omega) only [go_sem, e0, e7, e8, e9, gr, n6, m6, n24, m24];rw [hk] at hv6;refine OwnJ.append (m := 1) hv6 rfl (by omega) fun v2 H6 hv2 => ?_;have g6 := hv2.keep (upd_same _ _ _);obtain ⟨j1, j2⟩ := hv2.cell1;simp (disch := omega) only [go_sem, e0, e7, e8, e9, g6, j1, j2];refine ⟨j + 1, _, GhostS.refl _, (hI _ _ _).2 ?_, by omega⟩;simp (disch := omega) only [go_sem, e0, e7, e8, e9, hw1];(repeat' apply And.intro) <;> (try first | rfl | assumption | omega);refine ⟨v2, ?_⟩;have hv3 := hv2.at (upd_same _ _ _) (some (.cells [v2] 83));rw [upd_upd] at hv3;rw [htk, ← List.append_assoc, dToks_snoc, hk, List.length_append, List.length_singleton];exact hv3
   | false =>
    have hk : wTok s = ⟨4, 0, s, 0⟩ := by rw [wTok, kindW, hkb]; rfl
    simp (disch := omega) only [go_sem, e0, e7, e8, e9];refine dwp_draws (by kernel_rfl) (.take 0 (.take 1 (.take 2 (.take 3 (.take 4 (.take 5 (.go 6 [4] (.go 7 [] (.take 8 (.take 9 (.go 10 [] .done))))))))))) (by kernel_rfl) ?_;simp (disch := omega) only [go_sem, e0, e7, e8, e9, gr, n6, m6];intro r24 hr24; dsimp only at hr24;have n24 : r ≠ r24 := none_ne hr24 (keepU gr n6);have m24 := n24.symm;have hv6 := (hv.new hr6 _).new hr24 (some (.cells (dTok (wTok s)) 52));simp (disch := omega) only [go_sem, e0, e7, e8, e9, gr, n6, m6, n24, m24];rw [hk] at hv6;refine OwnJ.append (m := 1) hv6 rfl (by omega) fun v2 H6 hv2 => ?_;have g6 := hv2.keep (upd_same _ _ _);obtain ⟨j1, j2⟩ := hv2.cell1;simp (disch := omega) only [go_sem, e0, e7, e8, e9, g6, j1, j2];refine ⟨j + 1, _, GhostS.refl _, (hI _ _ _).2 ?_, by omega⟩;simp (disch := omega) only [go_sem, e0, e7, e8, e9, hw1];(repeat' apply And.intro) <;> (try first | rfl | assumption | omega);refine ⟨v2, ?_⟩;have hv3 := hv2.at (upd_same _ _ _) (some (.cells [v2] 83));rw [upd_upd] at hv3;rw [htk, ← List.append_assoc, dToks_snoc, hk, List.length_append, List.length_singleton];exact hv3
  ·have : j = ws.length := by omega
   subst this;have hlt' : ¬ (ws.length : Int) < (ws.length : Int) := by omega
   rw [List.take_length] at hwj;simp (disch := omega) only [go_sem, e0, e7, e8, e9, hlt'];exact DFin.refl ⟨rfl, hwj⟩
end
end Go.Dl

-- Chapter 3: the package's writer: names, parts, bounds, operators, membership, choices.
namespace Go.Dl
open Go Go.Proofs
set_option maxRecDepth 100000
section
variable {G : Nat → DVal} {H B : DHeap} {r : Nat} {ts : List Tok}
theorem WAt.ne {x : Nat} (h : WAt B r ts H) (hx : H x = none) : r ≠ x := fun e => (h.lo hx).2 e.symm
def WQ (B : DHeap) (r : Nat) (ts : List Tok) (e : DEnd) (H' : DHeap) : Prop := e = .ret (.tuple []) ∧ WAt B r ts H'
theorem put1 (hG : GX G) (s : List UInt8) {q : Nat} (hq : H q = none) (hB : B r = none) (hlen : ts.length + 1 ≤ 1000000000) (hw : WAt B r ts H) : DCalls Tryz.prog G 107 [.optr r 0, .oslice 1 q 0 1 1] (upd H q (some (.cells [.str s] 9))) (WQ B r (ts ++ [wTok s])) := by
 refine DCalls.fzA q hq ?_;have n : r ≠ q := hw.ne hq;simp only [fzs, fz, if_neg n, if_pos];exact put_spec hG [s] B r ts H hB hlen hw
theorem put2 (hG : GX G) (s t : List UInt8) {q : Nat} (hq : H q = none) (hB : B r = none) (hlen : ts.length + 2 ≤ 1000000000) (hw : WAt B r ts H) : DCalls Tryz.prog G 107 [.optr r 0, .oslice 1 q 0 2 2] (upd H q (some (.cells [.str s, .str t] 9))) (WQ B r (ts ++ [wTok s, wTok t])) := by
 refine DCalls.fzA q hq ?_;have n : r ≠ q := hw.ne hq;simp only [fzs, fz, if_neg n, if_pos];exact put_spec hG [s, t] B r ts H hB hlen hw
theorem wname_spec (G : Nat → DVal) (s : List UInt8) : WrC Tryz.prog G 108 [.str s] [nmTok s] := by
 intro B r ts H hB hlen hw;rw [List.length_singleton] at hlen;refine dcalls_intro Tryz.func108 Tryz.call108 rfl (by kernel_rfl) ?_;simp (disch := omega) only [go_sem];obtain ⟨v, hv⟩ := hw;have gr := hv.keep (upd_same _ _ _);simp (disch := omega) only [go_sem, gr];intro r6 hr6; dsimp only at hr6;have n6 : r ≠ r6 := none_ne hr6 gr;have m6 := n6.symm;have hv6 := hv.new hr6 (some (.cells (dTok (nmTok s)) 52));simp (disch := omega) only [go_sem, gr, n6, m6];refine OwnJ.append (m := 1) hv6 rfl (by omega) fun v2 H6 hv2 => ?_;have g6 := hv2.keep (upd_same _ _ _);obtain ⟨j1, j2⟩ := hv2.cell1;simp (disch := omega) only [go_sem, g6, j1, j2];refine DFin.refl ⟨rfl, v2, ?_⟩;have hv3 := hv2.at (upd_same _ _ _) (some (.cells [v2] 83));rw [upd_upd] at hv3;rw [dToks_snoc, List.length_append, List.length_singleton];exact hv3
end
section
variable {G : Nat → DVal}
set_option maxHeartbeats 4000000 in
theorem wpart_spec (hG : GX G) (e : Ex) (lv : Int) (he : WrC Tryz.prog G 53 [.agg (dEx e)] (toksE e)) : WrC Tryz.prog G 109 [.agg (dEx e), dI lv] (partE e lv) := by
 intro B r ts H hB hlen hw;refine dcalls_intro Tryz.func109 Tryz.call109 rfl (by kernel_rfl) ?_;simp (disch := omega) only [go_sem, DVal.cells];intro r4 hr4; dsimp only at hr4;obtain ⟨K, hK⟩ : ∃ K', K' = upd H r4 (some (.cells (dEx e) 27)) := ⟨_, rfl⟩;rw [← hK];have gr4 : K r4 = some (.cells (dEx e) 27) := by rw [hK]; exact upd_same _ _ _
 have hwK : WAt (upd B r4 (some (.cells (dEx e) 27))) r ts K := by rw [hK]; exact hw.frame hr4 _
 have n4 : r ≠ r4 := hw.ne hr4;have hB4 : B r4 = none := (hw.lo hr4).1;have hBK : upd B r4 (some (.cells (dEx e) 27)) r = none := by rw [upd_ne _ _ _ _ n4]; exact hB
 simp (disch := omega) only [go_sem, gr4];refine (level_spec G K e).mono ?_;rintro _ K1 ⟨rfl, rfl⟩;by_cases c : levelE e < lv
 ·have c' : ¬ lv ≤ levelE e := by omega
  have hp : partE e lv = wTok wOpen :: (toksE e ++ [wTok wShut]) := by rw [partE, decide_eq_true c]; rfl
  rw [hp] at hlen ⊢
  simp only [List.length_cons, List.length_append, List.length_nil] at hlen;simp (disch := omega) only [go_sem, c'];intro q1 hq1; dsimp only at hq1;simp (disch := omega) only [go_sem];refine (put1 hG wOpen hq1 hBK (by omega) hwK).mono ?_;rintro _ H1 ⟨rfl, h1⟩;have g1 := h1.keep (upd_same _ _ _) n4.symm;simp (disch := omega) only [go_sem, g1];refine (he _ r _ _ hBK (by simp; omega) h1).mono ?_;rintro _ H2 ⟨rfl, h2⟩;simp (disch := omega) only [go_sem];intro q2 hq2; dsimp only at hq2;simp (disch := omega) only [go_sem];refine (put1 hG wShut hq2 hBK (by simp; omega) h2).mono ?_;rintro _ H3 ⟨rfl, h3⟩;simp (disch := omega) only [go_sem];refine DFin.refl ⟨rfl, ?_⟩;have := h3.drop hB4;simpa using this
 ·have c' : lv ≤ levelE e := by omega
  have hp : partE e lv = toksE e := by rw [partE, decide_eq_false c]; rfl
  rw [hp] at hlen ⊢
  simp (disch := omega) only [go_sem, c', gr4];refine (he _ r _ _ hBK hlen hwK).mono ?_;rintro _ H1 ⟨rfl, h1⟩;simp (disch := omega) only [go_sem];exact DFin.refl ⟨rfl, h1.drop hB4⟩
end
end Go.Dl

-- Chapter 3: expressions: the plain laws, part 10: what reading asks of the first token, and of the one behind.
namespace Go.Dl
open Go
set_option maxRecDepth 10000
def w5 : List (List UInt8) := [wDot, wOpen, wTick]
def w3 : List (List UInt8) := w5 ++ [[42], [47], wMod, wRem]
def w2 : List (List UInt8) := w3 ++ [[43], [45]]
def w2d : List (List UInt8) := w2 ++ [wDots]
def w1 : List (List UInt8) := w2d ++ [[61], [47, 61], [60], [60, 61], [62], [62, 61], wIn, wNot]
def w0 : List (List UInt8) := w1 ++ [wAnd, wOr, wXor]
def nof (ws : List (List UInt8)) (t : Tok) : Prop := ∀ s ∈ ws, ¬ (t.kind = kindW s ∧ t.text = s)
instance (ws : List (List UInt8)) (t : Tok) : Decidable (nof ws t) := inferInstanceAs (Decidable (∀ s ∈ ws, ¬ (t.kind = kindW s ∧ t.text = s)))
theorem nof_sub {ws ws' : List (List UInt8)} {t : Tok} (h : nof ws t) (hs : ∀ s ∈ ws', s ∈ ws) : nof ws' t := fun s m => h s (hs s m)
section
end
end Go.Dl

-- Chapter 3: expressions: the plain laws, part 11: reading the tokens of an expression.
namespace Go.Dl
open Go
set_option maxRecDepth 10000
def At (l : List Tok) (k : Nat) (ts : List Tok) : Prop := k ≤ l.length ∧ ts <+: l.drop k
section
variable {l : List Tok} {k k' : Nat} {s : List UInt8} {p : PS}
theorem lv5 {e : Ex} (h : 1 ≤ e.kind ∧ e.kind ≤ 10) : levelE e = 5 := by unfold levelE; rw [if_neg (by omega), if_neg (by omega), if_neg (by omega)]
theorem s10 {t : Tok} (h : nof w0 t) : nof w1 t := nof_sub h (by decide)
section
end
end
end Go.Dl

-- Chapter 3: expressions: the plain laws, part 12: the tokens of an expression are read as that expression.
namespace Go.Dl
open Go
set_option maxRecDepth 10000
theorem len1 {l : List Ex} (h : l.length = 1) : ∃ x, l = [x] := by
 match l, h with
 | [x], _ => exact ⟨x, rfl⟩
theorem len2 {l : List Ex} (h : l.length = 2) : ∃ x y, l = [x, y] := by
 match l, h with
 | [x, y], _ => exact ⟨x, y, rfl⟩
theorem len3 {l : List Ex} (h : l.length = 3) : ∃ x y z, l = [x, y, z] := by
 match l, h with
 | [x, y, z], _ => exact ⟨x, y, z, rfl⟩
theorem namedN1 {e : Ex} (h : namedN e 1 = true) : ∃ x, e.l = [x] ∧ namedE x = true := by
 rw [namedN, Bool.and_eq_true, decide_eq_true_eq] at h;obtain ⟨x, hx⟩ := len1 h.1;rw [hx] at h;exact ⟨x, hx, h.2⟩
theorem namedN2 {e : Ex} (h : namedN e 2 = true) : ∃ x y, e.l = [x, y] ∧ namedE x = true := by
 rw [namedN, Bool.and_eq_true, decide_eq_true_eq] at h;obtain ⟨x, y, hx⟩ := len2 h.1;rw [hx] at h;exact ⟨x, y, hx, h.2⟩
section
variable {e : Ex}
theorem ff1 (h : e.kind = 1) (hf : fieldsE e = true) : e.l = [] ∧ e.oper = 0 ∧ e.s = [] ∧ e.a = [] := by
 have : fieldsE e = (e.l.isEmpty && decide (0 ≤ e.n) && decide (e.n ≤ 2147483647) && zO e && zS e && zA e) := by unfold fieldsE; rw [h]; rfl
 rw [this] at hf;simp only [Bool.and_eq_true, zO, zS, zA, decide_eq_true_eq, List.isEmpty_iff] at hf;exact ⟨hf.1.1.1.1.1, hf.1.1.2, hf.1.2, hf.2⟩
theorem ff46 (h : e.kind = 4 ∨ e.kind = 6) (hf : fieldsE e = true) : (∃ x, e.l = [x] ∧ namedE x = true) ∧ e.oper = 0 ∧ e.n = 0 ∧ e.a = [] := by
 have : fieldsE e = (namedN e 1 && nameB e.s && zO e && zN e && zA e) := by rcases h with h | h <;> (unfold fieldsE; rw [h]; rfl)
 rw [this] at hf;simp only [Bool.and_eq_true, zO, zN, zA, decide_eq_true_eq, List.isEmpty_iff] at hf;exact ⟨namedN1 hf.1.1.1.1, hf.1.1.2, hf.1.2, hf.2⟩
theorem ff5 (h : e.kind = 5) (hf : fieldsE e = true) : (∃ x, e.l = [x] ∧ namedE x = true) ∧ e.oper = 0 ∧ e.n = 0 ∧ e.s = [] ∧ e.a = [] := by
 have : fieldsE e = (namedN e 1 && zO e && zN e && zS e && zA e) := by unfold fieldsE; rw [h]; rfl
 rw [this] at hf;simp only [Bool.and_eq_true, zO, zN, zS, zA, decide_eq_true_eq, List.isEmpty_iff] at hf;exact ⟨namedN1 hf.1.1.1.1, hf.1.1.1.2, hf.1.1.2, hf.1.2, hf.2⟩
theorem ff7 (h : e.kind = 7) (hf : fieldsE e = true) : (∃ x, e.l = [x] ∧ namedE x = true) ∧ argsOk e.a = true ∧ e.oper = 0 ∧ e.n = 0 ∧ e.s = [] := by
 have : fieldsE e = (namedN e 1 && argsOk e.a && zO e && zN e && zS e) := by unfold fieldsE; rw [h]; rfl
 rw [this] at hf;simp only [Bool.and_eq_true, zO, zN, zS, decide_eq_true_eq] at hf;exact ⟨namedN1 hf.1.1.1.1, hf.1.1.1.2, hf.1.1.2, hf.1.2, hf.2⟩
theorem ff8 (h : e.kind = 8) (hf : fieldsE e = true) : (∃ x y, e.l = [x, y] ∧ namedE x = true) ∧ e.oper = 0 ∧ e.n = 0 ∧ e.s = [] ∧ e.a = [] := by
 have : fieldsE e = (namedN e 2 && zO e && zN e && zS e && zA e) := by unfold fieldsE; rw [h]; rfl
 rw [this] at hf;simp only [Bool.and_eq_true, zO, zN, zS, zA, decide_eq_true_eq, List.isEmpty_iff] at hf;exact ⟨namedN2 hf.1.1.1.1, hf.1.1.1.2, hf.1.1.2, hf.1.2, hf.2⟩
theorem ff9 (h : e.kind = 9) (hf : fieldsE e = true) : e.l = [] ∧ assocsOk e.a = true ∧ e.oper = 0 ∧ e.n = 0 ∧ e.s = [] := by
 have : fieldsE e = (e.l.isEmpty && assocsOk e.a && zO e && zN e && zS e) := by unfold fieldsE; rw [h]; rfl
 rw [this] at hf;simp only [Bool.and_eq_true, zO, zN, zS, decide_eq_true_eq, List.isEmpty_iff] at hf;exact ⟨hf.1.1.1.1, hf.1.1.1.2, hf.1.1.2, hf.1.2, hf.2⟩
theorem ff10 (h : e.kind = 10) (hf : fieldsE e = true) : (∃ x y z, e.l = [x, y, z]) ∧ e.oper = 0 ∧ e.n = 0 ∧ e.s = [] ∧ e.a = [] := by
 have : fieldsE e = (decide (e.l.length = 3) && zO e && zN e && zS e && zA e) := by unfold fieldsE; rw [h]; rfl
 rw [this] at hf;simp only [Bool.and_eq_true, zO, zN, zS, zA, decide_eq_true_eq, List.isEmpty_iff] at hf;exact ⟨len3 hf.1.1.1.1, hf.1.1.1.2, hf.1.1.2, hf.1.2, hf.2⟩
theorem ff11 (h : e.kind = 11) (hf : fieldsE e = true) : (∃ x, e.l = [x]) ∧ (∃ o : Nat, e.oper = o ∧ (o = 18 ∨ o = 19 ∨ o = 20 ∨ o = 21)) ∧ e.n = 0 ∧ e.s = [] ∧ e.a = [] := by
 have : fieldsE e = (decide (e.l.length = 1) && decide (18 ≤ e.oper) && decide (e.oper ≤ 21) && zN e && zS e && zA e) := by unfold fieldsE; rw [h]; rfl
 rw [this] at hf;simp only [Bool.and_eq_true, zN, zS, zA, decide_eq_true_eq, List.isEmpty_iff] at hf;exact ⟨len1 hf.1.1.1.1.1, ⟨e.oper.toNat, by omega, by omega⟩, hf.1.1.2, hf.1.2, hf.2⟩
theorem ff12 (h : e.kind = 12) (hf : fieldsE e = true) : (∃ x y, e.l = [x, y]) ∧ (∃ o : Nat, e.oper = o ∧ 1 ≤ o ∧ o ≤ 17) ∧ e.n = 0 ∧ e.s = [] ∧ e.a = [] := by
 have : fieldsE e = (decide (e.l.length = 2) && decide (1 ≤ e.oper) && decide (e.oper ≤ 17) && zN e && zS e && zA e) := by unfold fieldsE; rw [h]; rfl
 rw [this] at hf;simp only [Bool.and_eq_true, zN, zS, zA, decide_eq_true_eq, List.isEmpty_iff] at hf;exact ⟨len2 hf.1.1.1.1.1, ⟨e.oper.toNat, by omega, by omega, by omega⟩, hf.1.1.2, hf.1.2, hf.2⟩
theorem ff134 (h : e.kind = 13 ∨ e.kind = 14) (hf : fieldsE e = true) : ((∃ x y z, e.l = [x, y, z]) ∨ ∃ x y, e.l = [x, y] ∧ namedE y = true) ∧ e.oper = 0 ∧ e.n = 0 ∧ e.s = [] ∧ e.a = [] := by
 have : fieldsE e = ((decide (e.l.length = 3) || decide (e.l.length = 2) && namedE (e.l.getD 1 ex0)) && zO e && zN e && zS e && zA e) := by rcases h with h | h <;> (unfold fieldsE; rw [h]; rfl)
 rw [this] at hf;simp only [Bool.and_eq_true, Bool.or_eq_true, zO, zN, zS, zA, decide_eq_true_eq, List.isEmpty_iff] at hf;refine ⟨?_, hf.1.1.1.2, hf.1.1.2, hf.1.2, hf.2⟩;rcases hf.1.1.1.1 with h3 | h2
 ·exact .inl (len3 h3)
 ·obtain ⟨x, y, hx⟩ := len2 h2.1;rw [hx] at h2;exact .inr ⟨x, y, hx, h2.2⟩
theorem nm_of (h : 3 ≤ e.kind ∧ e.kind ≤ 8) : namedE e = true := by rw [namedE, decide_eq_true h.1, decide_eq_true h.2]; rfl
theorem nm_not (h : e.kind < 3 ∨ 8 < e.kind) : namedE e = true → False := fun c => by
 rw [namedE, Bool.and_eq_true, decide_eq_true_eq, decide_eq_true_eq] at c; omega
end
section
end
end Go.Dl

-- Chapter 3: expressions: the plain laws, part 13: the tokens of an expression are read as that expression: each kind.
namespace Go.Dl
open Go
set_option maxRecDepth 10000
theorem assocAll_mem : ∀ {l : List As}, assocAll l = true → ∀ a ∈ l, (a.c.isEmpty || rightCs a.c) = true
 | [], _, a, h => by cases h
 | b :: r, h, a, hm => by
  rw [assocAll, Bool.and_eq_true] at h;rcases List.mem_cons.1 hm with rfl | hm
  ·have := h.1;rw [Bool.or_eq_true] at this ⊢
   rcases this with h1 | h1
   ·exact .inl h1
   ·rw [Bool.and_eq_true] at h1; exact .inr h1.1
  ·exact assocAll_mem h.2 a hm
section
end
end Go.Dl

-- Chapter 3: expressions: the plain laws, part 14: the tokens of an expression are read as that expression: operators, membership; all.
namespace Go.Dl
open Go
set_option maxRecDepth 10000
section
end
theorem valid_fields {d : Nat} {e : Ex} (h : validE d e = true) : fieldsE e = true ∧ ∀ x ∈ parts e, validE (d + 1) x = true := by
 rw [validE_eq, Bool.and_eq_true, Bool.and_eq_true, List.all_eq_true] at h;exact ⟨h.1.2, h.2⟩
end Go.Dl

-- Chapter 3: the package's writer: bounds, operators, membership, choices.
namespace Go.Dl
open Go Go.Proofs
set_option maxRecDepth 100000
theorem lx0 {e : List Ex} {x : Ex} {r : List Ex} (h : e = x :: r) : (e.flatMap dEx).take 9 = dEx x := by
 rw [h, List.flatMap_cons, List.take_append_of_le_length (by rw [dEx_len]; omega), List.take_of_length_le (by rw [dEx_len]; omega)]
theorem lx1 {e : List Ex} {x y : Ex} {r : List Ex} (h : e = x :: y :: r) : ((e.flatMap dEx).drop 9).take 9 = dEx y := by
 rw [h, List.flatMap_cons, List.drop_left' (dEx_len x)];exact lx0 rfl
theorem lx2 {e : List Ex} {x y z : Ex} {r : List Ex} (h : e = x :: y :: z :: r) : ((e.flatMap dEx).drop 18).take 9 = dEx z := by
 rw [h, List.flatMap_cons, show 18 = 9 + 9 from rfl, ← List.drop_drop, List.drop_left' (dEx_len x)];exact lx1 rfl
section
variable {G : Nat → DVal}
set_option maxHeartbeats 4000000 in
theorem wbounds_spec (hG : GX G) (a b : Ex) (ha : WrC Tryz.prog G 53 [.agg (dEx a)] (toksE a)) (hb : WrC Tryz.prog G 53 [.agg (dEx b)] (toksE b)) : WrC Tryz.prog G 143 [.agg (dEx a), .agg (dEx b)] (partE a 2 ++ wTok wDots :: partE b 2) := by
 intro B r ts H hB hlen hw;rw [List.length_append, List.length_cons] at hlen;refine dcalls_intro Tryz.func143 Tryz.call143 rfl (by kernel_rfl) ?_;simp (disch := omega) only [go_sem, DVal.cells];intro r4 hr4; dsimp only at hr4;obtain ⟨K, hK⟩ : ∃ K', K' = upd H r4 (some (.cells (dEx a) 27)) := ⟨_, rfl⟩;rw [← hK];have gr4 : K r4 = some (.cells (dEx a) 27) := by rw [hK]; exact upd_same _ _ _
 have hwK : WAt (upd B r4 (some (.cells (dEx a) 27))) r ts K := by rw [hK]; exact hw.frame hr4 _
 have n4 : r ≠ r4 := hw.ne hr4;have hB4 : B r4 = none := (hw.lo hr4).1;simp (disch := omega) only [go_sem, DVal.cells];intro r5 hr5; dsimp only at hr5;obtain ⟨L, hL⟩ : ∃ K', K' = upd K r5 (some (.cells (dEx b) 27)) := ⟨_, rfl⟩;rw [← hL];have gr5 : L r5 = some (.cells (dEx b) 27) := by rw [hL]; exact upd_same _ _ _
 have hwL : WAt (upd (upd B r4 (some (.cells (dEx a) 27))) r5 (some (.cells (dEx b) 27))) r ts L := by rw [hL]; exact hwK.frame hr5 _
 have n5 : r ≠ r5 := hwK.ne hr5;have hB5 := (hwK.lo hr5).1;have n45 : r4 ≠ r5 := none_ne hr5 gr4;have gr4' : L r4 = some (.cells (dEx a) 27) := by rw [hL]; exact keepU gr4 n45
 obtain ⟨C, hC⟩ : ∃ C, C = upd (upd B r4 (some (.cells (dEx a) 27))) r5 (some (.cells (dEx b) 27)) := ⟨_, rfl⟩;rw [← hC] at hwL;have hCr : C r = none := by rw [hC, upd_ne _ _ _ _ n5, upd_ne _ _ _ _ n4]; exact hB
 have c4 : C r4 = some (.cells (dEx a) 27) := by rw [hC]; exact keepU (upd_same _ _ _) n45
 have c5 : C r5 = some (.cells (dEx b) 27) := by rw [hC]; exact upd_same _ _ _
 simp (disch := omega) only [go_sem, gr4'];refine (wpart_spec hG a 2 ha C r _ _ hCr (by omega) hwL).mono ?_;rintro _ H1 ⟨rfl, h1⟩;simp (disch := omega) only [go_sem];intro q1 hq1; dsimp only at hq1;simp (disch := omega) only [go_sem];refine (put1 hG wDots hq1 hCr (by simp; omega) h1).mono ?_;rintro _ H2 ⟨rfl, h2⟩;have g5 := h2.keep c5 n5.symm;simp (disch := omega) only [go_sem, g5];refine (wpart_spec hG b 2 hb C r _ _ hCr (by simp; omega) h2).mono ?_;rintro _ H3 ⟨rfl, h3⟩;simp (disch := omega) only [go_sem];refine DFin.refl ⟨rfl, ?_⟩;rw [hC] at h3;have := (h3.drop hB5).drop hB4;simpa using this
set_option maxHeartbeats 4000000 in
theorem wmona_spec (hG : GX G) (e x : Ex) (o : Nat) (hl : e.l = [x]) (ho : e.oper = o) (ho2 : o < 22) (hx : WrC Tryz.prog G 53 [.agg (dEx x)] (toksE x)) : WrC Tryz.prog G 110 [.agg (dEx e)] ((wordsN o).map wTok ++ partE x (leastM e)) := by
 intro B r ts H hB hlen hw;rw [List.length_append, List.length_map] at hlen;have hl0 := lx0 hl;have hfl := flat_len dEx_len e.l;have hll : e.l.length = 1 := by rw [hl]; rfl
 have hwo := wordsL_get ho2;have hwl : (wordsL.map dW).length = 22 := rfl;refine dcalls_intro Tryz.func110 Tryz.call110 rfl (by kernel_rfl) ?_;simp (disch := omega) only [go_sem, DVal.cells];intro r3 hr3; dsimp only at hr3;obtain ⟨K, hK⟩ : ∃ K', K' = upd H r3 (some (.cells (dEx e) 27)) := ⟨_, rfl⟩;rw [← hK];have gr3 : K r3 = some (.cells (dEx e) 27) := by rw [hK]; exact upd_same _ _ _
 have hwK : WAt (upd B r3 (some (.cells (dEx e) 27))) r ts K := by rw [hK]; exact hw.frame hr3 _
 have n3 : r ≠ r3 := hw.ne hr3;have hB3 : B r3 = none := (hw.lo hr3).1;have hBK : upd B r3 (some (.cells (dEx e) 27)) r = none := by rw [upd_ne _ _ _ _ n3]; exact hB
 simp (disch := omega) only [go_sem, gr3];refine (level_spec G K e).mono ?_;rintro _ K1 ⟨rfl, rfl⟩;by_cases c : levelE e = 2
 ·have hM : leastM e = 3 := by rw [leastM, if_pos c]
  rw [hM] at hlen ⊢
  simp (disch := omega) only [go_sem, c];refine dwp_draws (by kernel_rfl) (.take 0 (.take 2 (.take 3 (.go 1 [3] (.take 4 (.take 5 (.go 6 [] .done))))))) (by kernel_rfl) ?_;simp (disch := omega) only [go_sem, gr3];refine (words_spec G K1).mono ?_;rintro _ K2 ⟨rfl, rfl⟩;simp (disch := omega) only [go_sem, gr3, ho, dWords, hwo, hwl, Int.toNat_natCast];refine (put_spec hG (wordsN o) _ r _ _ hBK (by rw [List.length_map]; omega) hwK).mono ?_;rintro _ H1 ⟨rfl, h1⟩;have g3 := h1.keep (upd_same _ _ _) n3.symm;simp (disch := omega) only [go_sem, g3, hll, hl0, hfl];refine (wpart_spec hG x _ hx _ r _ _ hBK (by rw [List.length_append, List.length_map]; omega) h1).mono ?_;rintro _ H2 ⟨rfl, h2⟩;simp (disch := omega) only [go_sem];refine DFin.refl ⟨rfl, ?_⟩;have := h2.drop hB3;rw [List.append_assoc] at this;exact this
 ·have hM : leastM e = 5 := by rw [leastM, if_neg c]
  rw [hM] at hlen ⊢
  simp (disch := omega) only [go_sem, c];refine dwp_draws (by kernel_rfl) (.take 0 (.take 2 (.take 3 (.go 1 [3] (.take 4 (.take 5 (.go 6 [] .done))))))) (by kernel_rfl) ?_;simp (disch := omega) only [go_sem, gr3];refine (words_spec G K1).mono ?_;rintro _ K2 ⟨rfl, rfl⟩;simp (disch := omega) only [go_sem, gr3, ho, dWords, hwo, hwl, Int.toNat_natCast];refine (put_spec hG (wordsN o) _ r _ _ hBK (by rw [List.length_map]; omega) hwK).mono ?_;rintro _ H1 ⟨rfl, h1⟩;have g3 := h1.keep (upd_same _ _ _) n3.symm;simp (disch := omega) only [go_sem, g3, hll, hl0, hfl];refine (wpart_spec hG x _ hx _ r _ _ hBK (by rw [List.length_append, List.length_map]; omega) h1).mono ?_;rintro _ H2 ⟨rfl, h2⟩;simp (disch := omega) only [go_sem];refine DFin.refl ⟨rfl, ?_⟩;have := h2.drop hB3;rw [List.append_assoc] at this;exact this
set_option maxHeartbeats 4000000 in
theorem wdyad_spec (hG : GX G) (e x y : Ex) (o : Nat) (hl : e.l = [x, y]) (ho : e.oper = o) (ho2 : o < 22) (hx : WrC Tryz.prog G 53 [.agg (dEx x)] (toksE x)) (hy : WrC Tryz.prog G 53 [.agg (dEx y)] (toksE y)) :
  WrC Tryz.prog G 111 [.agg (dEx e)] (partE x (leastL e) ++ ((wordsN o).map wTok ++ partE y (leastR e))) := by
 intro B r ts H hB hlen hw;rw [List.length_append, List.length_append, List.length_map] at hlen;have hl0 := lx0 hl;have hl1 := lx1 hl;have hfl := flat_len dEx_len e.l;have hll : e.l.length = 2 := by rw [hl]; rfl
 have hwo := wordsL_get ho2;have hwl : (wordsL.map dW).length = 22 := rfl;have hlv := level_ge e;have g0 : e.l.getD 0 ex0 = x := by rw [hl]; rfl
 have hx0 : (e.l.flatMap dEx)[0]? = some (.int .u8 x.kind) := by rw [hl, List.flatMap_cons, dEx_eq]; rfl
 have hx1 : (e.l.flatMap dEx)[1]? = some (.int .u8 x.oper) := by rw [hl, List.flatMap_cons, dEx_eq]; rfl
 refine dcalls_intro Tryz.func111 Tryz.call111 rfl (by kernel_rfl) ?_;simp (disch := omega) only [go_sem, DVal.cells];intro r3 hr3; dsimp only at hr3;obtain ⟨K, hK⟩ : ∃ K', K' = upd H r3 (some (.cells (dEx e) 27)) := ⟨_, rfl⟩;rw [← hK];have gr3 : K r3 = some (.cells (dEx e) 27) := by rw [hK]; exact upd_same _ _ _
 have hwK : WAt (upd B r3 (some (.cells (dEx e) 27))) r ts K := by rw [hK]; exact hw.frame hr3 _
 have n3 : r ≠ r3 := hw.ne hr3;have hB3 : B r3 = none := (hw.lo hr3).1;have hBK : upd B r3 (some (.cells (dEx e) 27)) r = none := by rw [upd_ne _ _ _ _ n3]; exact hB
 simp (disch := omega) only [go_sem, gr3];refine (level_spec G K e).mono ?_;rintro _ K1 ⟨rfl, rfl⟩;have hwl1 : IntKind.i64.wrap (levelE e + 1) = levelE e + 1 := by rw [IntKind.wrap_i64]; omega
 by_cases c1 : levelE e = 1
 ·have hL : leastL e = 2 := by rw [leastL, if_pos c1]
  have hR : leastR e = 2 := by rw [leastR, if_pos c1]
  rw [hL, hR] at hlen ⊢
  simp (disch := omega) only [go_sem, c1, hwl1];simp (disch := omega) only [go_sem, gr3, hll, hl0, hfl];refine (wpart_spec hG x _ hx _ r _ _ hBK (by omega) hwK).mono ?_;rintro _ H1 ⟨rfl, h1⟩;have g3 := h1.keep (upd_same _ _ _) n3.symm;simp (disch := omega) only [go_sem];refine dwp_draws (by kernel_rfl) (.take 0 (.take 2 (.take 3 (.go 1 [3] (.take 4 (.take 5 (.go 6 [] .done))))))) (by kernel_rfl) ?_;simp (disch := omega) only [go_sem, g3];refine (words_spec G H1).mono ?_;rintro _ K2 ⟨rfl, rfl⟩;simp (disch := omega) only [go_sem, g3, ho, dWords, hwo, hwl, Int.toNat_natCast];refine (put_spec hG (wordsN o) _ r _ _ hBK (by rw [List.length_append, List.length_map]; omega) h1).mono ?_;rintro _ H3 ⟨rfl, h3⟩;have g3' := h3.keep (upd_same _ _ _) n3.symm;simp (disch := omega) only [go_sem, g3', hll, hl1, hfl];refine (wpart_spec hG y _ hy _ r _ _ hBK (by rw [List.length_append, List.length_append, List.length_map]; omega) h3).mono ?_;rintro _ H4 ⟨rfl, h4⟩;simp (disch := omega) only [go_sem];refine DFin.refl ⟨rfl, ?_⟩;have := h4.drop hB3;rw [List.append_assoc, List.append_assoc] at this;exact this
 ·have hR : leastR e = levelE e + 1 := by rw [leastR, if_neg c1]
  by_cases c0 : levelE e = 0
  ·have hR : leastR e = 1 := by rw [leastR, if_neg c1, c0]; rfl
   by_cases ck : x.kind = 12
   ·by_cases co : x.oper = (o : Int)
    ·have hL : leastL e = 0 := by rw [leastL, if_neg c1, g0, ho, if_neg (by rintro ⟨_, a | a⟩; exact a ck; exact a co), c0]
     rw [hL, hR] at hlen ⊢
     have c01 : ¬ (0 : Int) = 1 := by decide
     simp (disch := omega) only [go_sem, c0, hwl1, c01];refine dwp_draws (by kernel_rfl) (.take 0 (.take 1 (.take 2 (.take 3 (.take 4 (.take 5 (.take 6 (.take 7 (.take 8 (.take 9 (.take 10 (.take 11 (.take 12 (.take 13 (.take 14 (.take 15 (.take 16 (.take 17 (.take 18 (.take 19 (.take 20 .done))))))))))))))))))))) (by kernel_rfl) ?_;simp (disch := omega) only [go_sem, gr3, hll, hfl, hx0, hx1, ck, co, ho];simp (disch := omega) only [go_sem, gr3, hll, hl0, hfl];refine (wpart_spec hG x _ hx _ r _ _ hBK (by omega) hwK).mono ?_;rintro _ H1 ⟨rfl, h1⟩;have g3 := h1.keep (upd_same _ _ _) n3.symm;simp (disch := omega) only [go_sem];refine dwp_draws (by kernel_rfl) (.take 0 (.take 2 (.take 3 (.go 1 [3] (.take 4 (.take 5 (.go 6 [] .done))))))) (by kernel_rfl) ?_;simp (disch := omega) only [go_sem, g3];refine (words_spec G H1).mono ?_;rintro _ K2 ⟨rfl, rfl⟩;simp (disch := omega) only [go_sem, g3, ho, dWords, hwo, hwl, Int.toNat_natCast];refine (put_spec hG (wordsN o) _ r _ _ hBK (by rw [List.length_append, List.length_map]; omega) h1).mono ?_;rintro _ H3 ⟨rfl, h3⟩;have g3' := h3.keep (upd_same _ _ _) n3.symm;simp (disch := omega) only [go_sem, g3', hll, hl1, hfl];refine (wpart_spec hG y _ hy _ r _ _ hBK (by rw [List.length_append, List.length_append, List.length_map]; omega) h3).mono ?_;rintro _ H4 ⟨rfl, h4⟩;simp (disch := omega) only [go_sem];refine DFin.refl ⟨rfl, ?_⟩;have := h4.drop hB3;rw [List.append_assoc, List.append_assoc] at this;exact this
    ·have hL : leastL e = 1 := by rw [leastL, if_neg c1, g0, ho, if_pos ⟨c0, .inr co⟩]
     rw [hL, hR] at hlen ⊢
     simp (disch := omega) only [go_sem, c0, hwl1];refine dwp_draws (by kernel_rfl) (.take 0 (.take 1 (.take 2 (.take 3 (.take 4 (.take 5 (.take 6 (.take 7 (.take 8 (.take 9 (.take 10 (.take 11 (.take 12 (.take 13 (.take 14 (.take 15 (.take 16 (.take 17 (.take 18 (.take 19 (.take 20 .done))))))))))))))))))))) (by kernel_rfl) ?_;simp (disch := omega) only [go_sem, gr3, hll, hfl, hx0, hx1, ck, co, ho];simp (disch := omega) only [go_sem, gr3, hll, hl0, hfl];refine (wpart_spec hG x _ hx _ r _ _ hBK (by omega) hwK).mono ?_;rintro _ H1 ⟨rfl, h1⟩;have g3 := h1.keep (upd_same _ _ _) n3.symm;simp (disch := omega) only [go_sem];refine dwp_draws (by kernel_rfl) (.take 0 (.take 2 (.take 3 (.go 1 [3] (.take 4 (.take 5 (.go 6 [] .done))))))) (by kernel_rfl) ?_;simp (disch := omega) only [go_sem, g3];refine (words_spec G H1).mono ?_;rintro _ K2 ⟨rfl, rfl⟩;simp (disch := omega) only [go_sem, g3, ho, dWords, hwo, hwl, Int.toNat_natCast];refine (put_spec hG (wordsN o) _ r _ _ hBK (by rw [List.length_append, List.length_map]; omega) h1).mono ?_;rintro _ H3 ⟨rfl, h3⟩;have g3' := h3.keep (upd_same _ _ _) n3.symm;simp (disch := omega) only [go_sem, g3', hll, hl1, hfl];refine (wpart_spec hG y _ hy _ r _ _ hBK (by rw [List.length_append, List.length_append, List.length_map]; omega) h3).mono ?_;rintro _ H4 ⟨rfl, h4⟩;simp (disch := omega) only [go_sem];refine DFin.refl ⟨rfl, ?_⟩;have := h4.drop hB3;rw [List.append_assoc, List.append_assoc] at this;exact this
   ·have hL : leastL e = 1 := by rw [leastL, if_neg c1, g0, ho, if_pos ⟨c0, .inl ck⟩]
    rw [hL, hR] at hlen ⊢
    simp (disch := omega) only [go_sem, c0, hwl1];refine dwp_draws (by kernel_rfl) (.take 0 (.take 1 (.take 2 (.take 3 (.take 4 (.take 5 (.take 6 (.take 7 (.take 8 (.take 9 (.take 10 (.take 11 (.take 12 (.take 13 (.take 14 (.take 15 (.take 16 (.take 17 (.take 18 (.take 19 (.take 20 .done))))))))))))))))))))) (by kernel_rfl) ?_;simp (disch := omega) only [go_sem, gr3, hll, hfl, hx0, hx1, ck, ho];simp (disch := omega) only [go_sem, gr3, hll, hl0, hfl];refine (wpart_spec hG x _ hx _ r _ _ hBK (by omega) hwK).mono ?_;rintro _ H1 ⟨rfl, h1⟩;have g3 := h1.keep (upd_same _ _ _) n3.symm;simp (disch := omega) only [go_sem];refine dwp_draws (by kernel_rfl) (.take 0 (.take 2 (.take 3 (.go 1 [3] (.take 4 (.take 5 (.go 6 [] .done))))))) (by kernel_rfl) ?_;simp (disch := omega) only [go_sem, g3];refine (words_spec G H1).mono ?_;rintro _ K2 ⟨rfl, rfl⟩;simp (disch := omega) only [go_sem, g3, ho, dWords, hwo, hwl, Int.toNat_natCast];refine (put_spec hG (wordsN o) _ r _ _ hBK (by rw [List.length_append, List.length_map]; omega) h1).mono ?_;rintro _ H3 ⟨rfl, h3⟩;have g3' := h3.keep (upd_same _ _ _) n3.symm;simp (disch := omega) only [go_sem, g3', hll, hl1, hfl];refine (wpart_spec hG y _ hy _ r _ _ hBK (by rw [List.length_append, List.length_append, List.length_map]; omega) h3).mono ?_;rintro _ H4 ⟨rfl, h4⟩;simp (disch := omega) only [go_sem];refine DFin.refl ⟨rfl, ?_⟩;have := h4.drop hB3;rw [List.append_assoc, List.append_assoc] at this;exact this
  ·have hL : leastL e = levelE e := by rw [leastL, if_neg c1, if_neg (by rintro ⟨a, _⟩; exact c0 a)]
   rw [hL, hR] at hlen ⊢
   simp (disch := omega) only [go_sem, c0, c1, hwl1];refine dwp_draws (by kernel_rfl) (.take 0 (.take 1 (.take 2 (.take 3 (.take 4 (.take 5 (.take 6 (.take 7 (.take 8 (.take 9 (.take 10 (.take 11 (.take 12 (.take 13 (.take 14 (.take 15 (.take 16 (.take 17 (.take 18 (.take 19 (.take 20 .done))))))))))))))))))))) (by kernel_rfl) ?_;simp (disch := omega) only [go_sem, gr3, hll, hfl, hx0, hx1, ho, c0];simp (disch := omega) only [go_sem, gr3, hll, hl0, hfl];refine (wpart_spec hG x _ hx _ r _ _ hBK (by omega) hwK).mono ?_;rintro _ H1 ⟨rfl, h1⟩;have g3 := h1.keep (upd_same _ _ _) n3.symm;simp (disch := omega) only [go_sem];refine dwp_draws (by kernel_rfl) (.take 0 (.take 2 (.take 3 (.go 1 [3] (.take 4 (.take 5 (.go 6 [] .done))))))) (by kernel_rfl) ?_;simp (disch := omega) only [go_sem, g3];refine (words_spec G H1).mono ?_;rintro _ K2 ⟨rfl, rfl⟩;simp (disch := omega) only [go_sem, g3, ho, dWords, hwo, hwl, Int.toNat_natCast];refine (put_spec hG (wordsN o) _ r _ _ hBK (by rw [List.length_append, List.length_map]; omega) h1).mono ?_;rintro _ H3 ⟨rfl, h3⟩;have g3' := h3.keep (upd_same _ _ _) n3.symm;simp (disch := omega) only [go_sem, g3', hll, hl1, hfl];refine (wpart_spec hG y _ hy _ r _ _ hBK (by rw [List.length_append, List.length_append, List.length_map]; omega) h3).mono ?_;rintro _ H4 ⟨rfl, h4⟩;simp (disch := omega) only [go_sem];refine DFin.refl ⟨rfl, ?_⟩;have := h4.drop hB3;rw [List.append_assoc, List.append_assoc] at this;exact this
set_option maxHeartbeats 4000000 in
theorem winside_spec (hG : GX G) (e x : Ex) (ws : List (List UInt8)) (hl : (∃ y z, e.l = [x, y, z]) ∨ ∃ y, e.l = [x, y]) (hp : ∀ y ∈ e.l, WrC Tryz.prog G 53 [.agg (dEx y)] (toksE y)) :
  WrC Tryz.prog G 112 [.agg (dEx e), dW ws] (partE x 2 ++ (ws.map wTok ++ tailE e)) := by
 intro B r ts H hB hlen hw;rw [List.length_append, List.length_append, List.length_map] at hlen;have hx : WrC Tryz.prog G 53 [.agg (dEx x)] (toksE x) := hp x (by rcases hl with ⟨y, z, hl⟩ | ⟨y, hl⟩ <;> (rw [hl]; simp));have hl0 : (e.l.flatMap dEx).take 9 = dEx x := by rcases hl with ⟨y, z, hl⟩ | ⟨y, hl⟩ <;> exact lx0 hl
 have hfl := flat_len dEx_len e.l;have hlp : 0 < e.l.length := by rcases hl with ⟨y, z, hl⟩ | ⟨y, hl⟩ <;> (rw [hl]; simp)
 refine dcalls_intro Tryz.func112 Tryz.call112 rfl (by kernel_rfl) ?_;simp (disch := omega) only [go_sem, DVal.cells];intro r4 hr4; dsimp only at hr4;obtain ⟨K, hK⟩ : ∃ K', K' = upd H r4 (some (.cells (dEx e) 27)) := ⟨_, rfl⟩;rw [← hK];have gr4 : K r4 = some (.cells (dEx e) 27) := by rw [hK]; exact upd_same _ _ _
 have hwK : WAt (upd B r4 (some (.cells (dEx e) 27))) r ts K := by rw [hK]; exact hw.frame hr4 _
 have n4 : r ≠ r4 := hw.ne hr4;have hB4 : B r4 = none := (hw.lo hr4).1;have hBK : upd B r4 (some (.cells (dEx e) 27)) r = none := by rw [upd_ne _ _ _ _ n4]; exact hB
 rcases hl with ⟨y, z, hl⟩ | ⟨y, hl⟩
 ·have hll : e.l.length = 3 := by rw [hl]; rfl
  have hl1 := lx1 hl;have hl2 := lx2 hl;have ht : tailE e = partE y 2 ++ wTok wDots :: partE z 2 := by unfold tailE pE tE; rw [hl]; rfl
  rw [ht] at hlen ⊢
  simp (disch := omega) only [go_sem, gr4, hl0, hfl, hlp];refine (wpart_spec hG x _ hx _ r _ _ hBK (by omega) hwK).mono ?_;rintro _ H1 ⟨rfl, h1⟩;simp (disch := omega) only [go_sem];refine (put_spec hG ws _ r _ _ hBK (by rw [List.length_append, List.length_map]; omega) h1).mono ?_;rintro _ H2 ⟨rfl, h2⟩;have g2 := h2.keep (upd_same _ _ _) n4.symm;simp (disch := omega) only [go_sem, g2, hll];refine dwp_draws (by kernel_rfl) (.take 0 (.take 1 (.take 2 (.take 3 (.take 4 (.take 5 (.take 6 (.take 7 (.take 8 (.go 9 [] .done)))))))))) (by kernel_rfl) ?_;simp (disch := omega) only [go_sem, g2, hll, hl1, hl2, hfl];refine (wbounds_spec hG y z (hp y (by rw [hl]; simp)) (hp z (by rw [hl]; simp)) _ r _ _ hBK (by rw [List.length_append, List.length_append, List.length_map]; omega) h2).mono ?_;rintro _ H4 ⟨rfl, h4⟩;simp (disch := omega) only [go_sem];refine DFin.refl ⟨rfl, ?_⟩;have := h4.drop hB4;rw [List.append_assoc, List.append_assoc] at this;exact this
 ·have hll : e.l.length = 2 := by rw [hl]; rfl
  have hl1 := lx1 hl;have ht : tailE e = toksE y := by unfold tailE pE tE; rw [hl]; rfl
  rw [ht] at hlen ⊢
  simp (disch := omega) only [go_sem, gr4, hl0, hfl, hlp];refine (wpart_spec hG x _ hx _ r _ _ hBK (by omega) hwK).mono ?_;rintro _ H1 ⟨rfl, h1⟩;simp (disch := omega) only [go_sem];refine (put_spec hG ws _ r _ _ hBK (by rw [List.length_append, List.length_map]; omega) h1).mono ?_;rintro _ H2 ⟨rfl, h2⟩;have g2 := h2.keep (upd_same _ _ _) n4.symm;simp (disch := omega) only [go_sem, g2, hll, hl1, hfl];refine (hp y (by rw [hl]; simp) _ r _ _ hBK (by rw [List.length_append, List.length_append, List.length_map]; omega) h2).mono ?_;rintro _ H4 ⟨rfl, h4⟩;simp (disch := omega) only [go_sem];refine DFin.refl ⟨rfl, ?_⟩;have := h4.drop hB4;rw [List.append_assoc, List.append_assoc] at this;exact this
set_option maxHeartbeats 4000000 in
theorem wchoice_spec (hG : GX G) (c : Ch) {n : Nat} (hc : rightC n c = true) (hp : ∀ y ∈ c.l, WrC Tryz.prog G 53 [.agg (dEx y)] (toksE y)) : WrC Tryz.prog G 92 [.agg (dCh c)] (toksC c) := by
 intro B r ts H hB hlen hw;have hfl := flat_len dEx_len c.l;unfold rightC at hc;refine dcalls_intro Tryz.func92 Tryz.call92 rfl (by kernel_rfl) ?_;simp (disch := omega) only [go_sem, DVal.cells];intro r3 hr3; dsimp only at hr3;obtain ⟨K, hK⟩ : ∃ K', K' = upd H r3 (some (.cells (dCh c) 71)) := ⟨_, rfl⟩;rw [← hK];have gr3 : K r3 = some (.cells (dCh c) 71) := by rw [hK]; exact upd_same _ _ _
 have hwK : WAt (upd B r3 (some (.cells (dCh c) 71))) r ts K := by rw [hK]; exact hw.frame hr3 _
 have n3 : r ≠ r3 := hw.ne hr3;have hB3 : B r3 = none := (hw.lo hr3).1;have hBK : upd B r3 (some (.cells (dCh c) 71)) r = none := by rw [upd_ne _ _ _ _ n3]; exact hB
 by_cases c1 : c.kind = 1
 ·rw [if_pos c1, decide_eq_true_eq] at hc;obtain ⟨x, hx⟩ := len1 hc;have hl0 := lx0 hx;have ht : toksC c = toksE x := by rw [toksC_eq, if_pos c1, hx]; rfl
  rw [ht] at hlen ⊢
  simp (disch := omega) only [go_sem, gr3, c1, hc, hl0, hfl];refine (hp x (by rw [hx]; simp) _ r _ _ hBK hlen hwK).mono ?_;rintro _ H4 ⟨rfl, h4⟩;simp (disch := omega) only [go_sem];exact DFin.refl ⟨rfl, h4.drop hB3⟩
 ·rw [if_neg c1] at hc;by_cases c2 : c.kind = 2
  ·rw [if_pos c2, decide_eq_true_eq] at hc;obtain ⟨x, y, hx⟩ := len2 hc;have hl0 := lx0 hx;have hl1 := lx1 hx;have ht : toksC c = partE x 2 ++ wTok wDots :: partE y 2 := by rw [toksC_eq, if_neg c1, if_pos c2, hx]; rfl
   rw [ht] at hlen ⊢
   simp (disch := omega) only [go_sem, gr3, c2];refine dwp_draws (by kernel_rfl) (.take 0 (.take 1 (.take 2 (.take 3 (.take 4 (.take 5 (.take 6 (.take 7 (.take 8 (.go 9 [] .done)))))))))) (by kernel_rfl) ?_;simp (disch := omega) only [go_sem, gr3, hc, hl0, hl1, hfl];refine (wbounds_spec hG x y (hp x (by rw [hx]; simp)) (hp y (by rw [hx]; simp)) _ r _ _ hBK hlen hwK).mono ?_;rintro _ H4 ⟨rfl, h4⟩;simp (disch := omega) only [go_sem];exact DFin.refl ⟨rfl, h4.drop hB3⟩
  ·have ht : toksC c = [wTok wOthers] := by rw [toksC_eq, if_neg c1, if_neg c2]
   rw [ht] at hlen ⊢
   simp (disch := omega) only [go_sem, gr3, c1, c2];intro q1 hq1; dsimp only at hq1;simp (disch := omega) only [go_sem];refine (put1 hG wOthers hq1 hBK hlen hwK).mono ?_;rintro _ H1 ⟨rfl, h1⟩;simp (disch := omega) only [go_sem];exact DFin.refl ⟨rfl, h1.drop hB3⟩
end
end Go.Dl

-- Chapter 3: the package's writer: lists, associations.
namespace Go.Dl
open Go Go.Proofs
set_option maxRecDepth 100000
theorem take_snoc {α : Type} {l : List α} {j : Nat} (h : j < l.length) : l.take (j + 1) = l.take j ++ [l[j]] := by rw [List.take_add_one, List.getElem?_eq_getElem h]; rfl
theorem sepT_take {α : Type} (g : α → List Tok) (s : List UInt8) (l : List α) (j : Nat) (h : j < l.length) : sepT s ((l.take (j + 1)).map g) = sepT s ((l.take j).map g) ++ ((if j = 0 then [] else [wTok s]) ++ g l[j]) := by
 rw [take_snoc h, List.map_append, List.map_singleton];by_cases c : j = 0
 ·subst c; simp [sepT]
 ·rw [sepT_snoc s _ _ (by cases l with
   | nil => simp at h
   | cons x l => cases j with
    | zero => exact absurd rfl c
    | succ j => simp), if_neg c]; rfl
theorem sepT_mono {α : Type} (g : α → List Tok) (s : List UInt8) (l : List α) : ∀ (n j : Nat), j + n ≤ l.length → (sepT s ((l.take j).map g)).length ≤ (sepT s ((l.take (j + n)).map g)).length
 | 0, j, _ => Nat.le_refl _
 | n + 1, j, h => by
  rw [← Nat.add_assoc, sepT_take g s l (j + n) (by omega), List.length_append];have := sepT_mono g s l n j (by omega);omega
theorem sepT_le {α : Type} (g : α → List Tok) (s : List UInt8) (l : List α) (j : Nat) (h : j ≤ l.length) : (sepT s ((l.take j).map g)).length ≤ (sepT s (l.map g)).length := by
 have := sepT_mono g s l (l.length - j) j (by omega);rw [Nat.add_sub_cancel' h, List.take_length] at this;exact this
section
variable {G : Nat → DVal}
set_option maxHeartbeats 4000000 in
theorem wlistC_spec (hG : GX G) (l : List Ch) (s : List UInt8) (hll : l.length ≤ 1000000000) (hp : ∀ c ∈ l, WrC Tryz.prog G 92 [.agg (dCh c)] (toksC c)) (B : DHeap) (r : Nat) (ts : List Tok) (H : DHeap) (hB : B r = none) (hlen : ts.length + (sepT s (l.map toksC)).length ≤ 1000000000) (hw : WAt B r ts H) :
  DCalls Tryz.prog G 91 [.optr r 0, dCl l, .str s, .func (.func 92) [.optr r 0] []] H (WQ B r (ts ++ sepT s (l.map toksC))) := by
 refine dcalls_intro Tryz.func91 Tryz.call91 rfl (by kernel_rfl) ?_;simp (disch := omega) only [go_sem, dCl];obtain ⟨I, hI⟩ : ∃ I : Nat → (Nat → DVal) → DHeap → Prop, ∀ j env heap, I j env heap ↔ (env 0 = .optr r 0 ∧ env 2 = .str s ∧ env 3 = .func (.func 92) [.optr r 0] [] ∧ env 10 = dCl l ∧ env 11 = dI l.length ∧ env 12 = dI j ∧ j ≤ l.length ∧ WAt B r (ts ++ sepT s ((l.take j).map toksC)) heap) := ⟨_, fun _ _ _ => Iff.rfl⟩;refine DLoop.run I (fun j => l.length - j) 0 ((hI _ _ _).2 ?_) ?_
 ·simp (disch := omega) only [go_sem];(repeat' apply And.intro) <;> (try first | rfl | assumption | omega);simpa [sepT] using hw
 ·intro j env heap hi;obtain ⟨e0, e2, e3, e10, e11, e12, hj, hwj⟩ := (hI _ _ _).1 hi;by_cases hlt : j < l.length
  ·have hlt' : (j : Int) < (l.length : Int) := by omega
   have hw1 : IntKind.i64.wrap ((j : Int) + 1) = ((j + 1 : Nat) : Int) := by rw [IntKind.wrap_i64]; omega
   have hget := flat_el dCh_len l j hlt;have hfl := flat_len dCh_len l;have htk := sepT_take toksC s l j hlt;have hle := sepT_le toksC s l (j + 1) hlt;have hpc := hp l[j] (List.getElem_mem hlt);obtain ⟨c, hce⟩ : ∃ c, c = l[j] := ⟨_, rfl⟩;rw [← hce] at hget htk hpc;rw [htk, List.length_append, List.length_append] at hle;simp (disch := omega) only [go_sem, e0, e2, e3, e10, e11, e12, hlt', dCl, hget, hfl, Int.toNat_natCast];intro r9 hr9; dsimp only at hr9;simp (disch := omega) only [go_sem, e0, e2, e3, e10, e11, e12];obtain ⟨K, hK⟩ : ∃ K', K' = upd heap r9 (some (.cells (dCh c) 71)) := ⟨_, rfl⟩;rw [← hK];have gr9 : K r9 = some (.cells (dCh c) 71) := by rw [hK]; exact upd_same _ _ _
   have hwK : WAt (upd B r9 (some (.cells (dCh c) 71))) r (ts ++ sepT s ((l.take j).map toksC)) K := by rw [hK]; exact hwj.frame hr9 _
   have n9 : r ≠ r9 := hwj.ne hr9;have hB9 : B r9 = none := (hwj.lo hr9).1;have hBK : upd B r9 (some (.cells (dCh c) 71)) r = none := by rw [upd_ne _ _ _ _ n9]; exact hB
   by_cases c0 : j = 0
   ·have c0' : ¬ (j : Int) > 0 := by omega
    have c0'' : ¬ (0 : Int) < (j : Int) := by omega
    rw [if_pos c0] at htk hle;simp (disch := omega) only [go_sem, e0, e2, e3, e10, e11, e12, gr9, c0', c0''];refine (hpc _ r _ _ hBK (by rw [List.length_append]; simp only [List.length_nil] at hle; omega) hwK).mono ?_;rintro _ H2 ⟨rfl, h2⟩;simp (disch := omega) only [go_sem, e0, e2, e3, e10, e11, e12];refine ⟨j + 1, _, GhostS.refl _, (hI _ _ _).2 ?_, by omega⟩;simp (disch := omega) only [go_sem, e0, e2, e3, e10, e11, e12, hw1];(repeat' apply And.intro) <;> (try first | rfl | assumption | omega);have := h2.drop hB9;rw [htk, List.nil_append, ← List.append_assoc];exact this
   ·have c0'' : (0 : Int) < (j : Int) := by omega
    rw [if_neg c0] at htk hle;simp only [List.length_singleton] at hle;simp (disch := omega) only [go_sem, e0, e2, e3, e10, e11, e12, gr9, c0''];intro q1 hq1; dsimp only at hq1;simp (disch := omega) only [go_sem, e0, e2, e3, e10, e11, e12];refine (put1 hG s hq1 hBK (by rw [List.length_append]; omega) hwK).mono ?_;rintro _ H1 ⟨rfl, h1⟩;have g1 := h1.keep (upd_same _ _ _) n9.symm;simp (disch := omega) only [go_sem, e0, e2, e3, e10, e11, e12, g1];refine (hpc _ r _ _ hBK (by rw [List.length_append, List.length_append, List.length_singleton]; omega) h1).mono ?_;rintro _ H2 ⟨rfl, h2⟩;simp (disch := omega) only [go_sem, e0, e2, e3, e10, e11, e12];refine ⟨j + 1, _, GhostS.refl _, (hI _ _ _).2 ?_, by omega⟩;simp (disch := omega) only [go_sem, e0, e2, e3, e10, e11, e12, hw1];(repeat' apply And.intro) <;> (try first | rfl | assumption | omega);have := h2.drop hB9;rw [htk, ← List.append_assoc, ← List.append_assoc];exact this
  ·have : j = l.length := by omega
   subst this;have hlt' : ¬ (l.length : Int) < (l.length : Int) := by omega
   rw [List.take_length] at hwj;simp (disch := omega) only [go_sem, e0, e2, e3, e10, e11, e12, hlt'];exact DFin.refl ⟨rfl, hwj⟩
set_option maxHeartbeats 4000000 in
theorem wlistA_spec (hG : GX G) (l : List As) (s : List UInt8) (hll : l.length ≤ 1000000000) (hp : ∀ c ∈ l, WrC Tryz.prog G 89 [.agg (dAs c)] (toksA c)) (B : DHeap) (r : Nat) (ts : List Tok) (H : DHeap) (hB : B r = none) (hlen : ts.length + (sepT s (l.map toksA)).length ≤ 1000000000) (hw : WAt B r ts H) :
  DCalls Tryz.prog G 88 [.optr r 0, dAl l, .str s, .func (.func 89) [.optr r 0] []] H (WQ B r (ts ++ sepT s (l.map toksA))) := by
 refine dcalls_intro Tryz.func88 Tryz.call88 rfl (by kernel_rfl) ?_;simp (disch := omega) only [go_sem, dAl];obtain ⟨I, hI⟩ : ∃ I : Nat → (Nat → DVal) → DHeap → Prop, ∀ j env heap, I j env heap ↔ (env 0 = .optr r 0 ∧ env 2 = .str s ∧ env 3 = .func (.func 89) [.optr r 0] [] ∧ env 10 = dAl l ∧ env 11 = dI l.length ∧ env 12 = dI j ∧ j ≤ l.length ∧ WAt B r (ts ++ sepT s ((l.take j).map toksA)) heap) := ⟨_, fun _ _ _ => Iff.rfl⟩;refine DLoop.run I (fun j => l.length - j) 0 ((hI _ _ _).2 ?_) ?_
 ·simp (disch := omega) only [go_sem];(repeat' apply And.intro) <;> (try first | rfl | assumption | omega);simpa [sepT] using hw
 ·intro j env heap hi;obtain ⟨e0, e2, e3, e10, e11, e12, hj, hwj⟩ := (hI _ _ _).1 hi;by_cases hlt : j < l.length
  ·have hlt' : (j : Int) < (l.length : Int) := by omega
   have hw1 : IntKind.i64.wrap ((j : Int) + 1) = ((j + 1 : Nat) : Int) := by rw [IntKind.wrap_i64]; omega
   have hget := flat_el dAs_len l j hlt;have hfl := flat_len dAs_len l;have htk := sepT_take toksA s l j hlt;have hle := sepT_le toksA s l (j + 1) hlt;have hpc := hp l[j] (List.getElem_mem hlt);obtain ⟨c, hce⟩ : ∃ c, c = l[j] := ⟨_, rfl⟩;rw [← hce] at hget htk hpc;rw [htk, List.length_append, List.length_append] at hle;simp (disch := omega) only [go_sem, e0, e2, e3, e10, e11, e12, hlt', dAl, hget, hfl, Int.toNat_natCast];intro r9 hr9; dsimp only at hr9;simp (disch := omega) only [go_sem, e0, e2, e3, e10, e11, e12];obtain ⟨K, hK⟩ : ∃ K', K' = upd heap r9 (some (.cells (dAs c) 47)) := ⟨_, rfl⟩;rw [← hK];have gr9 : K r9 = some (.cells (dAs c) 47) := by rw [hK]; exact upd_same _ _ _
   have hwK : WAt (upd B r9 (some (.cells (dAs c) 47))) r (ts ++ sepT s ((l.take j).map toksA)) K := by rw [hK]; exact hwj.frame hr9 _
   have n9 : r ≠ r9 := hwj.ne hr9;have hB9 : B r9 = none := (hwj.lo hr9).1;have hBK : upd B r9 (some (.cells (dAs c) 47)) r = none := by rw [upd_ne _ _ _ _ n9]; exact hB
   by_cases c0 : j = 0
   ·have c0' : ¬ (j : Int) > 0 := by omega
    have c0'' : ¬ (0 : Int) < (j : Int) := by omega
    rw [if_pos c0] at htk hle;simp (disch := omega) only [go_sem, e0, e2, e3, e10, e11, e12, gr9, c0', c0''];refine (hpc _ r _ _ hBK (by rw [List.length_append]; simp only [List.length_nil] at hle; omega) hwK).mono ?_;rintro _ H2 ⟨rfl, h2⟩;simp (disch := omega) only [go_sem, e0, e2, e3, e10, e11, e12];refine ⟨j + 1, _, GhostS.refl _, (hI _ _ _).2 ?_, by omega⟩;simp (disch := omega) only [go_sem, e0, e2, e3, e10, e11, e12, hw1];(repeat' apply And.intro) <;> (try first | rfl | assumption | omega);have := h2.drop hB9;rw [htk, List.nil_append, ← List.append_assoc];exact this
   ·have c0'' : (0 : Int) < (j : Int) := by omega
    rw [if_neg c0] at htk hle;simp only [List.length_singleton] at hle;simp (disch := omega) only [go_sem, e0, e2, e3, e10, e11, e12, gr9, c0''];intro q1 hq1; dsimp only at hq1;simp (disch := omega) only [go_sem, e0, e2, e3, e10, e11, e12];refine (put1 hG s hq1 hBK (by rw [List.length_append]; omega) hwK).mono ?_;rintro _ H1 ⟨rfl, h1⟩;have g1 := h1.keep (upd_same _ _ _) n9.symm;simp (disch := omega) only [go_sem, e0, e2, e3, e10, e11, e12, g1];refine (hpc _ r _ _ hBK (by rw [List.length_append, List.length_append, List.length_singleton]; omega) h1).mono ?_;rintro _ H2 ⟨rfl, h2⟩;simp (disch := omega) only [go_sem, e0, e2, e3, e10, e11, e12];refine ⟨j + 1, _, GhostS.refl _, (hI _ _ _).2 ?_, by omega⟩;simp (disch := omega) only [go_sem, e0, e2, e3, e10, e11, e12, hw1];(repeat' apply And.intro) <;> (try first | rfl | assumption | omega);have := h2.drop hB9;rw [htk, ← List.append_assoc, ← List.append_assoc];exact this
  ·have : j = l.length := by omega
   subst this;have hlt' : ¬ (l.length : Int) < (l.length : Int) := by omega
   rw [List.take_length] at hwj;simp (disch := omega) only [go_sem, e0, e2, e3, e10, e11, e12, hlt'];exact DFin.refl ⟨rfl, hwj⟩
end
end Go.Dl

-- Chapter 3: the package's writer: associations; all expressions.
namespace Go.Dl
open Go Go.Proofs
set_option maxRecDepth 100000
section
variable {G : Nat → DVal}
set_option maxHeartbeats 4000000 in
theorem wassoc_spec (hG : GX G) (a : As) (hc : a.c = [] ∨ (a.c.length ≤ 1000000000 ∧ ∃ n, ∀ c ∈ a.c, rightC n c = true)) (hp : ∀ y ∈ partsA a, WrC Tryz.prog G 53 [.agg (dEx y)] (toksE y)) : WrC Tryz.prog G 89 [.agg (dAs a)] (toksA a) := by
 intro B r ts H hB hlen hw;have he := hp a.e (mem_partsA_e a);have hae : ((dAs a).drop 1).take 9 = dEx a.e := by rw [dAs_eq, List.drop_succ_cons, List.drop_zero, List.take_of_length_le (by rw [dEx_len]; omega)]
 refine dcalls_intro Tryz.func89 Tryz.call89 rfl (by kernel_rfl) ?_;simp (disch := omega) only [go_sem, DVal.cells];intro r3 hr3; dsimp only at hr3;obtain ⟨K, hK⟩ : ∃ K', K' = upd H r3 (some (.cells (dAs a) 47)) := ⟨_, rfl⟩;rw [← hK];have gr3 : K r3 = some (.cells (dAs a) 47) := by rw [hK]; exact upd_same _ _ _
 have hwK : WAt (upd B r3 (some (.cells (dAs a) 47))) r ts K := by rw [hK]; exact hw.frame hr3 _
 have n3 : r ≠ r3 := hw.ne hr3;have hB3 : B r3 = none := (hw.lo hr3).1;have hBK : upd B r3 (some (.cells (dAs a) 47)) r = none := by rw [upd_ne _ _ _ _ n3]; exact hB
 by_cases c0 : a.c = []
 ·have ht : toksA a = toksE a.e := by rw [toksA_eq, c0]; rfl
  have hll : a.c.length = 0 := by rw [c0]; rfl
  have c0' : ¬ (0 : Int) < ((0 : Nat) : Int) := by omega
  rw [ht] at hlen ⊢
  simp (disch := omega) only [go_sem, gr3, hll, c0', hae];refine (he _ r _ _ hBK hlen hwK).mono ?_;rintro _ H1 ⟨rfl, h1⟩;simp (disch := omega) only [go_sem];exact DFin.refl ⟨rfl, h1.drop hB3⟩
 ·obtain ⟨hcl, n, hcr⟩ := hc.resolve_left c0;have hlp : 0 < a.c.length := List.length_pos_iff.2 c0;have hlp' : (0 : Int) < (a.c.length : Int) := by omega
  have ht : toksA a = sepT wBar (a.c.map toksC) ++ wTok wArrow :: toksE a.e := by
   rw [toksA_eq, if_neg];simpa using c0
  rw [ht] at hlen ⊢
  rw [List.length_append, List.length_cons] at hlen;simp (disch := omega) only [go_sem, gr3, hlp'];refine (wlistC_spec hG a.c wBar hcl (fun c hc => wchoice_spec hG c (hcr c hc) fun y hy => hp y (mem_partsA_c hc hy)) _ r _ _ hBK (by omega) hwK).mono ?_;rintro _ H1 ⟨rfl, h1⟩;simp (disch := omega) only [go_sem];intro q1 hq1; dsimp only at hq1;simp (disch := omega) only [go_sem];refine (put1 hG wArrow hq1 hBK (by rw [List.length_append]; omega) h1).mono ?_;rintro _ H2 ⟨rfl, h2⟩;have g2 := h2.keep (upd_same _ _ _) n3.symm;simp (disch := omega) only [go_sem, g2, hae];refine (he _ r _ _ hBK (by rw [List.length_append, List.length_append, List.length_singleton]; omega) h2).mono ?_;rintro _ H3 ⟨rfl, h3⟩;simp (disch := omega) only [go_sem];refine DFin.refl ⟨rfl, ?_⟩;have := h3.drop hB3;rw [List.append_assoc, List.append_assoc] at this;exact this
theorem simple_right {a : As} (h : (a.c.isEmpty || simpleCs a.c) = true) : a.c = [] ∨ (a.c.length ≤ 1000000000 ∧ ∃ n, ∀ c ∈ a.c, rightC n c = true) := by
 cases hc : a.c with
 | nil => exact .inl rfl
 | cons c r =>
  rw [hc] at h
  cases r with
  | nil =>
   simp only [simpleCs, List.isEmpty_cons, Bool.false_or, Bool.and_eq_true, decide_eq_true_eq] at h
   refine .inr ⟨by simp, 1, fun d hd => ?_⟩
   rw [List.mem_singleton] at hd
   subst hd
   rw [rightC, if_pos h.1, decide_eq_true_eq]
   match hl : d.l with
   | [x] => rfl
   | [] => rw [hl] at h; cases h.2
   | _ :: _ :: _ => rw [hl] at h; cases h.2
  | cons d r => simp [simpleCs] at h
theorem right_right {a : As} (h : (a.c.isEmpty || rightCs a.c) = true) : a.c = [] ∨ (a.c.length ≤ 1000000000 ∧ ∃ n, ∀ c ∈ a.c, rightC n c = true) := by
 cases hc : a.c with
 | nil => exact .inl rfl
 | cons c r =>
  rw [hc] at h;simp only [List.isEmpty_cons, Bool.false_or, rightCs, Bool.and_eq_true, decide_eq_true_eq, List.all_eq_true] at h;exact .inr ⟨by omega, _, h.2⟩
def ifT (x y z : Ex) : Nat → List Tok
 | 0 => []
 | 1 => wTok wOpen :: wTok wIf :: toksE x
 | 2 => wTok wOpen :: wTok wIf :: (toksE x ++ wTok wThen :: toksE y)
 | _ => wTok wOpen :: wTok wIf :: (toksE x ++ wTok wThen :: (toksE y ++ wTok wElse :: toksE z))
set_option maxHeartbeats 8000000 in
theorem wexpr_step (hG : GX G) (e : Ex) (hf : fieldsE e = true) (ih : ∀ x ∈ parts e, WrC Tryz.prog G 53 [.agg (dEx x)] (toksE x)) : WrC Tryz.prog G 53 [.agg (dEx e)] (toksE e) := by
 intro B r ts H hB hlen hw;have hfl := flat_len dEx_len e.l;refine dcalls_intro Tryz.func53 Tryz.call53 rfl (by kernel_rfl) ?_;simp (disch := omega) only [go_sem, DVal.cells];intro r3 hr3; dsimp only at hr3;obtain ⟨K, hK⟩ : ∃ K', K' = upd H r3 (some (.cells (dEx e) 27)) := ⟨_, rfl⟩;rw [← hK];have gr3 : K r3 = some (.cells (dEx e) 27) := by rw [hK]; exact upd_same _ _ _
 have hwK : WAt (upd B r3 (some (.cells (dEx e) 27))) r ts K := by rw [hK]; exact hw.frame hr3 _
 have n3 : r ≠ r3 := hw.ne hr3;have hB3 : B r3 = none := (hw.lo hr3).1;have hBK : upd B r3 (some (.cells (dEx e) 27)) r = none := by rw [upd_ne _ _ _ _ n3]; exact hB
 simp (disch := omega) only [go_sem, gr3];refine (namedE_spec G _ e).mono ?_;rintro _ K1 ⟨rfl, rfl⟩;by_cases hk : e.kind = 1
 ·have hnm : namedE e = false := by cases h : namedE e with | false => rfl | true => exact (nm_not (by omega) h).elim
  rw [toks1 hk] at hlen ⊢
  rw [hnm];simp (disch := omega) only [go_sem, gr3, hk];refine dwp_draws (by kernel_rfl) (.take 0 (.take 1 (.take 2 (.take 3 (.take 4 (.take 5 (.take 6 (.take 7 (.go 8 [4] (.go 9 [] (.take 10 (.take 11 (.go 12 [] .done))))))))))))) (by kernel_rfl) ?_;obtain ⟨v, hv⟩ := hwK;have gr := hv.keep (upd_same _ _ _);simp (disch := omega) only [go_sem, gr3, gr];intro r6 hr6; dsimp only at hr6;have n6 : r ≠ r6 := none_ne hr6 gr;have m6 := n6.symm;have hv6 := hv.new hr6 (some (.cells (dTok (inTok e.n)) 52));simp (disch := omega) only [go_sem, gr, n6, m6];refine OwnJ.append (m := 1) hv6 rfl (by rw [List.length_singleton] at hlen; omega) fun v2 H6 hv2 => ?_;have g6 := hv2.keep (upd_same _ _ _);obtain ⟨j1, j2⟩ := hv2.cell1;simp (disch := omega) only [go_sem, g6, j1, j2];have h7 : WAt (upd B r3 (some (.cells (dEx e) 27))) r (ts ++ [inTok e.n]) (upd H6 r (some (.cells [v2] 83))) := by
   refine ⟨v2, ?_⟩;have hv3 := hv2.at (upd_same _ _ _) (some (.cells [v2] 83));rw [upd_upd] at hv3;rw [dToks_snoc, List.length_append, List.length_singleton];exact hv3
  exact DFin.refl ⟨rfl, h7.drop hB3⟩
 have z1 := hk; clear hk;by_cases hk : e.kind = 2
 ·have hnm : namedE e = false := by cases h : namedE e with | false => rfl | true => exact (nm_not (by omega) h).elim
  rw [toks2 hk] at hlen ⊢
  rw [hnm];simp (disch := omega) only [go_sem, gr3, hk];intro q1 hq1; dsimp only at hq1;simp (disch := omega) only [go_sem, hk];refine (put1 hG wNull hq1 hBK (by (try simp only [List.length_append, List.length_cons, List.length_nil, List.length_map]); omega) hwK).mono ?_;rintro _ H1 ⟨rfl, h1⟩;have g1 := h1.keep (upd_same _ _ _) n3.symm;simp (disch := omega) only [go_sem];refine DFin.refl ⟨rfl, ?_⟩;have := h1.drop hB3
  (try simp only [List.append_assoc, List.cons_append, List.nil_append] at this ⊢)
  exact this
 have z2 := hk; clear hk;by_cases hk : e.kind = 3
 ·have hnm : namedE e = true := nm_of (by omega);rw [toks3 hk] at hlen ⊢
  rw [hnm];simp (disch := omega) only [go_sem, gr3, hk];refine (wname_spec G e.s _ r _ _ hBK hlen hwK).mono ?_;rintro _ H1 ⟨rfl, h1⟩;simp (disch := omega) only [go_sem];refine DFin.refl ⟨rfl, ?_⟩;have := h1.drop hB3
  (try simp only [List.append_assoc, List.cons_append, List.nil_append] at this ⊢)
  exact this
 have z3 := hk; clear hk;by_cases hk : e.kind = 4
 ·obtain ⟨⟨x, hx, _⟩, _⟩ := ff46 (.inl hk) hf;have ht : toksE e = toksE x ++ [wTok wDot, nmTok e.s] := by rw [toks4 hk]; unfold tE; rw [hx]; rfl
  rw [ht, List.length_append] at hlen;rw [ht];simp only [List.length_cons, List.length_nil] at hlen;have hll : e.l.length = 1 := by rw [hx]; rfl
  have hfx := lx0 hx;have hnm : namedE e = true := nm_of (by omega);rw [hnm];simp (disch := omega) only [go_sem, gr3, hk, hll, hfl, hfx];refine (ih x (mem_parts_l (by rw [hx]; simp)) _ r _ _ hBK (by omega) hwK).mono ?_;rintro _ H1 ⟨rfl, h1⟩;have g1 := h1.keep (upd_same _ _ _) n3.symm;simp (disch := omega) only [go_sem, g1, hk];intro q1 hq1; dsimp only at hq1;simp (disch := omega) only [go_sem, hk];refine (put1 hG wDot hq1 hBK (by (try simp only [List.length_append, List.length_cons, List.length_nil, List.length_map]); omega) h1).mono ?_;rintro _ H2 ⟨rfl, h2⟩;have g2 := h2.keep (upd_same _ _ _) n3.symm;simp (disch := omega) only [go_sem, g2];refine (wname_spec G e.s _ r _ _ hBK (by (try simp only [List.length_append, List.length_cons, List.length_nil, List.length_map]); omega) h2).mono ?_;rintro _ H3 ⟨rfl, h3⟩;simp (disch := omega) only [go_sem];refine DFin.refl ⟨rfl, ?_⟩;have := h3.drop hB3
  (try simp only [List.append_assoc, List.cons_append, List.nil_append] at this ⊢)
  exact this
 have z4 := hk; clear hk;by_cases hk : e.kind = 5
 ·obtain ⟨⟨x, hx, _⟩, _⟩ := ff5 hk hf;have ht : toksE e = toksE x ++ [wTok wDot, wTok wAll] := by rw [toks5 hk]; unfold tE; rw [hx]; rfl
  rw [ht, List.length_append] at hlen;rw [ht];simp only [List.length_cons, List.length_nil] at hlen;have hll : e.l.length = 1 := by rw [hx]; rfl
  have hfx := lx0 hx;have hnm : namedE e = true := nm_of (by omega);rw [hnm];simp (disch := omega) only [go_sem, gr3, hk, hll, hfl, hfx];refine (ih x (mem_parts_l (by rw [hx]; simp)) _ r _ _ hBK (by omega) hwK).mono ?_;rintro _ H1 ⟨rfl, h1⟩;have g1 := h1.keep (upd_same _ _ _) n3.symm;simp (disch := omega) only [go_sem, g1, hk];intro q1 hq1; dsimp only at hq1;simp (disch := omega) only [go_sem];refine (put2 hG wDot wAll hq1 hBK (by (try simp only [List.length_append, List.length_cons, List.length_nil, List.length_map]); omega) h1).mono ?_;rintro _ H2 ⟨rfl, h2⟩;simp (disch := omega) only [go_sem];refine DFin.refl ⟨rfl, ?_⟩;have := h2.drop hB3
  (try simp only [List.append_assoc, List.cons_append, List.nil_append] at this ⊢)
  exact this
 have z5 := hk; clear hk;by_cases hk : e.kind = 6
 ·obtain ⟨⟨x, hx, _⟩, _⟩ := ff46 (.inr hk) hf;have ht : toksE e = toksE x ++ [wTok wTick, nmTok e.s] := by rw [toks6 hk]; unfold tE; rw [hx]; rfl
  rw [ht, List.length_append] at hlen;rw [ht];simp only [List.length_cons, List.length_nil] at hlen;have hll : e.l.length = 1 := by rw [hx]; rfl
  have hfx := lx0 hx;have hnm : namedE e = true := nm_of (by omega);rw [hnm];simp (disch := omega) only [go_sem, gr3, hk, hll, hfl, hfx];refine (ih x (mem_parts_l (by rw [hx]; simp)) _ r _ _ hBK (by omega) hwK).mono ?_;rintro _ H1 ⟨rfl, h1⟩;have g1 := h1.keep (upd_same _ _ _) n3.symm;simp (disch := omega) only [go_sem, g1, hk];intro q1 hq1; dsimp only at hq1;simp (disch := omega) only [go_sem, hk];refine (put1 hG wTick hq1 hBK (by (try simp only [List.length_append, List.length_cons, List.length_nil, List.length_map]); omega) h1).mono ?_;rintro _ H2 ⟨rfl, h2⟩;have g2 := h2.keep (upd_same _ _ _) n3.symm;simp (disch := omega) only [go_sem, g2];refine (wname_spec G e.s _ r _ _ hBK (by (try simp only [List.length_append, List.length_cons, List.length_nil, List.length_map]); omega) h2).mono ?_;rintro _ H3 ⟨rfl, h3⟩;simp (disch := omega) only [go_sem];refine DFin.refl ⟨rfl, ?_⟩;have := h3.drop hB3
  (try simp only [List.append_assoc, List.cons_append, List.nil_append] at this ⊢)
  exact this
 have z6 := hk; clear hk;by_cases hk : e.kind = 7
 ·obtain ⟨⟨x, hx, _⟩, ha, _⟩ := ff7 hk hf;have ht : toksE e = toksE x ++ wTok wOpen :: (taE e ++ [wTok wShut]) := by rw [toks7 hk]; unfold tE; rw [hx]; rfl
  rw [ht, List.length_append, List.length_cons, List.length_append] at hlen;rw [ht];simp only [List.length_cons, List.length_nil, taE] at hlen;unfold taE;have hll : e.l.length = 1 := by rw [hx]; rfl
  rw [argsOk, Bool.and_eq_true, Bool.and_eq_true, Bool.and_eq_true, decide_eq_true_eq, decide_eq_true_eq, List.all_eq_true] at ha;have hfx := lx0 hx;have hnm : namedE e = true := nm_of (by omega);rw [hnm];simp (disch := omega) only [go_sem, gr3, hk, hll, hfl, hfx];refine (ih x (mem_parts_l (by rw [hx]; simp)) _ r _ _ hBK (by omega) hwK).mono ?_;rintro _ H1 ⟨rfl, h1⟩;have g1 := h1.keep (upd_same _ _ _) n3.symm;simp (disch := omega) only [go_sem, g1, hk];intro q1 hq1; dsimp only at hq1;simp (disch := omega) only [go_sem, hk];refine (put1 hG wOpen hq1 hBK (by (try simp only [List.length_append, List.length_cons, List.length_nil, List.length_map]); omega) h1).mono ?_;rintro _ H2 ⟨rfl, h2⟩;have g2 := h2.keep (upd_same _ _ _) n3.symm;simp (disch := omega) only [go_sem, g2];refine (wlistA_spec hG e.a wComma (by omega) (fun a hma => wassoc_spec hG a (simple_right (ha.2 a hma)) fun y hy => ih y (mem_parts_a hma hy)) _ r _ _ hBK (by (try simp only [List.length_append, List.length_cons, List.length_nil, List.length_map]); omega) h2).mono ?_;rintro _ H3 ⟨rfl, h3⟩;simp (disch := omega) only [go_sem];intro q2 hq2; dsimp only at hq2;simp (disch := omega) only [go_sem, hk];refine (put1 hG wShut hq2 hBK (by (try simp only [List.length_append, List.length_cons, List.length_nil, List.length_map]); omega) h3).mono ?_;rintro _ H4 ⟨rfl, h4⟩;have g4 := h4.keep (upd_same _ _ _) n3.symm;simp (disch := omega) only [go_sem];refine DFin.refl ⟨rfl, ?_⟩;have := h4.drop hB3
  (try simp only [List.append_assoc, List.cons_append, List.nil_append] at this ⊢)
  exact this
 have z7 := hk; clear hk;by_cases hk : e.kind = 8
 ·obtain ⟨⟨x, y, hx, _⟩, _⟩ := ff8 hk hf;have ht : toksE e = toksE x ++ wTok wTick :: parT (!bareK y.kind) (toksE y) := by rw [toks8 hk]; unfold tE; rw [hx]; rfl
  rw [ht, List.length_append, List.length_cons] at hlen;rw [ht];have hll : e.l.length = 2 := by rw [hx]; rfl
  have hl1 := lx1 hx;have hy0 : (e.l.flatMap dEx)[9]? = some (.int .u8 y.kind) := by
   rw [hx, List.flatMap_cons, List.flatMap_cons, dEx_eq x, dEx_eq y]; rfl
  have hyl := level_ge y;have hfx := lx0 hx;have hnm : namedE e = true := nm_of (by omega);rw [hnm];simp (disch := omega) only [go_sem, gr3, hk, hll, hfl, hfx];refine (ih x (mem_parts_l (by rw [hx]; simp)) _ r _ _ hBK (by omega) hwK).mono ?_;rintro _ H1 ⟨rfl, h1⟩;have g1 := h1.keep (upd_same _ _ _) n3.symm;simp (disch := omega) only [go_sem, g1, hk];by_cases b9 : y.kind = 9
  ·have hb : parT (!bareK y.kind) (toksE y) = partE y 0 := by rw [b9, partE, decide_eq_false (by omega)]; rfl
   rw [hb] at hlen ⊢
   simp (disch := omega) only [go_sem, g1, hll, hfl, hy0, b9];intro q1 hq1; dsimp only at hq1;simp (disch := omega) only [go_sem, hk];refine (put1 hG wTick hq1 hBK (by (try simp only [List.length_append, List.length_cons, List.length_nil, List.length_map]); omega) h1).mono ?_;rintro _ H2 ⟨rfl, h2⟩;have g2 := h2.keep (upd_same _ _ _) n3.symm;simp (disch := omega) only [go_sem, g2, hll, hfl, hl1];refine (wpart_spec hG y 0 (ih y (mem_parts_l (by rw [hx]; simp))) _ r _ _ hBK (by (try simp only [List.length_append, List.length_cons, List.length_nil, List.length_map]); omega) h2).mono ?_;rintro _ H3 ⟨rfl, h3⟩;simp (disch := omega) only [go_sem];refine DFin.refl ⟨rfl, ?_⟩;have := h3.drop hB3
   (try simp only [List.append_assoc, List.cons_append, List.nil_append] at this ⊢)
   exact this
  ·by_cases b10 : y.kind = 10
   ·have hb : parT (!bareK y.kind) (toksE y) = partE y 0 := by rw [b10, partE, decide_eq_false (by omega)]; rfl
    rw [hb] at hlen ⊢
    simp (disch := omega) only [go_sem, g1, hll, hfl, hy0, b10];intro q1 hq1; dsimp only at hq1;simp (disch := omega) only [go_sem, hk];refine (put1 hG wTick hq1 hBK (by (try simp only [List.length_append, List.length_cons, List.length_nil, List.length_map]); omega) h1).mono ?_;rintro _ H2 ⟨rfl, h2⟩;have g2 := h2.keep (upd_same _ _ _) n3.symm;simp (disch := omega) only [go_sem, g2, hll, hfl, hl1];refine (wpart_spec hG y 0 (ih y (mem_parts_l (by rw [hx]; simp))) _ r _ _ hBK (by (try simp only [List.length_append, List.length_cons, List.length_nil, List.length_map]); omega) h2).mono ?_;rintro _ H3 ⟨rfl, h3⟩;simp (disch := omega) only [go_sem];refine DFin.refl ⟨rfl, ?_⟩;have := h3.drop hB3
    (try simp only [List.append_assoc, List.cons_append, List.nil_append] at this ⊢)
    exact this
   ·have hb : parT (!bareK y.kind) (toksE y) = partE y 6 := by rw [partE, decide_eq_true (by omega), bareK, decide_eq_false b9, decide_eq_false b10]; rfl
    rw [hb] at hlen ⊢
    simp (disch := omega) only [go_sem, g1, hll, hfl, hy0, b9, b10];intro q1 hq1; dsimp only at hq1;simp (disch := omega) only [go_sem, hk];refine (put1 hG wTick hq1 hBK (by (try simp only [List.length_append, List.length_cons, List.length_nil, List.length_map]); omega) h1).mono ?_;rintro _ H2 ⟨rfl, h2⟩;have g2 := h2.keep (upd_same _ _ _) n3.symm;simp (disch := omega) only [go_sem, g2, hll, hfl, hl1];refine (wpart_spec hG y 6 (ih y (mem_parts_l (by rw [hx]; simp))) _ r _ _ hBK (by (try simp only [List.length_append, List.length_cons, List.length_nil, List.length_map]); omega) h2).mono ?_;rintro _ H3 ⟨rfl, h3⟩;simp (disch := omega) only [go_sem];refine DFin.refl ⟨rfl, ?_⟩;have := h3.drop hB3
    (try simp only [List.append_assoc, List.cons_append, List.nil_append] at this ⊢)
    exact this
 have z8 := hk; clear hk;by_cases hk : e.kind = 9
 ·obtain ⟨hx, ha, _⟩ := ff9 hk hf;have ht : toksE e = wTok wOpen :: (taE e ++ [wTok wShut]) := toks9 hk;rw [ht, List.length_cons, List.length_append] at hlen;rw [ht];simp only [List.length_cons, List.length_nil, taE] at hlen;unfold taE;have hnm : namedE e = false := by cases h : namedE e with | false => rfl | true => exact (nm_not (by omega) h).elim
  rw [hnm];rw [assocsOk] at ha;simp only [Bool.and_eq_true, decide_eq_true_eq, Bool.not_eq_true'] at ha;simp (disch := omega) only [go_sem, gr3, hk];intro q1 hq1; dsimp only at hq1;simp (disch := omega) only [go_sem, hk];refine (put1 hG wOpen hq1 hBK (by (try simp only [List.length_append, List.length_cons, List.length_nil, List.length_map]); omega) hwK).mono ?_;rintro _ H2 ⟨rfl, h2⟩;have g2 := h2.keep (upd_same _ _ _) n3.symm;simp (disch := omega) only [go_sem, g2];refine (wlistA_spec hG e.a wComma (by omega) (fun a hma => wassoc_spec hG a (right_right (assocAll_mem ha.2 a hma)) fun y hy => ih y (mem_parts_a hma hy)) _ r _ _ hBK (by (try simp only [List.length_append, List.length_cons, List.length_nil, List.length_map]); omega) h2).mono ?_;rintro _ H3 ⟨rfl, h3⟩;simp (disch := omega) only [go_sem];intro q2 hq2; dsimp only at hq2;simp (disch := omega) only [go_sem, hk];refine (put1 hG wShut hq2 hBK (by (try simp only [List.length_append, List.length_cons, List.length_nil, List.length_map]); omega) h3).mono ?_;rintro _ H4 ⟨rfl, h4⟩;have g4 := h4.keep (upd_same _ _ _) n3.symm;simp (disch := omega) only [go_sem];refine DFin.refl ⟨rfl, ?_⟩;have := h4.drop hB3
  (try simp only [List.append_assoc, List.cons_append, List.nil_append] at this ⊢)
  exact this
 have z9 := hk; clear hk;by_cases hk : e.kind = 10
 ·obtain ⟨⟨x, y, z, hx⟩, _⟩ := ff10 hk hf;have ht : toksE e = ifT x y z 3 ++ [wTok wShut] := by rw [toks10 hk]; unfold tE; rw [hx]; simp [ifT]
  have hle3 : (ifT x y z 1).length ≤ (ifT x y z 3).length ∧ (ifT x y z 2).length ≤ (ifT x y z 3).length := by
   simp only [ifT, List.length_cons, List.length_append]; omega
  rw [ht, List.length_append, List.length_singleton] at hlen;rw [ht];have hll : e.l.length = 3 := by rw [hx]; rfl
  have hl0 := lx0 hx;have hl1 := lx1 hx;have hl2 := lx2 hx;have hnm : namedE e = false := by cases h : namedE e with | false => rfl | true => exact (nm_not (by omega) h).elim
  rw [hnm];simp (disch := omega) only [go_sem, gr3, hk];intro q0 hq0; dsimp only at hq0;obtain ⟨L, hL⟩ : ∃ K', K' = upd K1 q0 (some (.cells [.str [105, 102], .str [116, 104, 101, 110], .str [101, 108, 115, 101]] 9)) := ⟨_, rfl⟩;rw [← hL];have hwL : WAt (upd (upd B r3 (some (.cells (dEx e) 27))) q0 (some (.cells [.str [105, 102], .str [116, 104, 101, 110], .str [101, 108, 115, 101]] 9))) r ts L := by rw [hL]; exact hwK.frame hq0 _
  have n0 : r ≠ q0 := hwK.ne hq0;have hB0 := (hwK.lo hq0).1;have n30 : r3 ≠ q0 := none_ne hq0 gr3;obtain ⟨C, hC⟩ : ∃ C, C = upd (upd B r3 (some (.cells (dEx e) 27))) q0 (some (.cells [.str [105, 102], .str [116, 104, 101, 110], .str [101, 108, 115, 101]] 9)) := ⟨_, rfl⟩;rw [← hC] at hwL;have hCr : C r = none := by rw [hC, upd_ne _ _ _ _ n0]; exact hBK
  have c3 : C r3 = some (.cells (dEx e) 27) := by rw [hC]; exact keepU (upd_same _ _ _) n30
  have c0 : C q0 = some (.cells [.str [105, 102], .str [116, 104, 101, 110], .str [101, 108, 115, 101]] 9) := by rw [hC]; exact upd_same _ _ _
  simp (disch := omega) only [go_sem];obtain ⟨I, hI⟩ : ∃ I : Nat → (Nat → DVal) → DHeap → Prop, ∀ j env heap, I j env heap ↔ (env 0 = .optr r 0 ∧ env 3 = .optr r3 0 ∧ env 111 = .oslice 1 q0 0 3 3 ∧ env 112 = dI 3 ∧ env 113 = dI j ∧ j ≤ 3 ∧ WAt C r (ts ++ ifT x y z j) heap) := ⟨_, fun _ _ _ => Iff.rfl⟩;refine DLoop.run I (fun j => 3 - j) 0 ((hI _ _ _).2 ?_) ?_
  ·simp (disch := omega) only [go_sem];(repeat' apply And.intro) <;> (try first | rfl | assumption | omega);simpa [ifT] using hwL
  ·intro j env heap hi;obtain ⟨e0, e3, e111, e112, e113, hj, hwj⟩ := (hI _ _ _).1 hi;have g3 := hwj.keep c3 n3.symm;have g0 := hwj.keep c0 n0.symm;have hj' : j = 0 ∨ j = 1 ∨ j = 2 ∨ j = 3 := by omega
   have w1 : IntKind.i64.wrap (0 + 1) = 1 := by decide
   have w2 : IntKind.i64.wrap (1 + 1) = 2 := by decide
   have w3 : IntKind.i64.wrap (2 + 1) = 3 := by decide
   rcases hj' with rfl | rfl | rfl | rfl
   ·have z0 : ((0 : Nat) : Int) = 0 := rfl;simp (disch := omega) only [go_sem, e0, e3, e111, e112, e113, g0, z0];intro p1 hp1; dsimp only at hp1;simp (disch := omega) only [go_sem, e0, e3, e111, e112, e113];refine (put1 hG wOpen hp1 hCr (by simp only [ifT, List.append_nil]; omega) hwj).mono ?_;rintro _ H1 ⟨rfl, h1⟩;have f1 := h1.keep c3 n3.symm;simp (disch := omega) only [go_sem, e0, e3, e111, e112, e113, f1];intro p2 hp2; dsimp only at hp2;simp (disch := omega) only [go_sem, e0, e3, e111, e112, e113];refine (put1 hG wIf hp2 hCr (by simp only [ifT, List.append_nil, List.length_append, List.length_cons, List.length_nil] at hle3 hlen ⊢; omega) h1).mono ?_;rintro _ H2 ⟨rfl, h2⟩;have f2 := h2.keep c3 n3.symm;simp (disch := omega) only [go_sem, e0, e3, e111, e112, e113, f2, hll, hfl, hl0];refine (ih x (mem_parts_l (by rw [hx]; simp)) _ r _ _ hCr (by simp only [ifT, List.append_nil, List.length_append, List.length_cons, List.length_nil] at hle3 hlen ⊢; omega) h2).mono ?_;rintro _ H4 ⟨rfl, h4⟩;simp (disch := omega) only [go_sem, e0, e3, e111, e112, e113];refine ⟨1, _, GhostS.refl _, (hI _ _ _).2 ?_, by omega⟩;simp (disch := omega) only [go_sem, e0, e3, e111, e112, e113, w1];(repeat' apply And.intro) <;> (try first | rfl | assumption | omega);simpa [ifT] using h4
   ·have z0 : ((1 : Nat) : Int) = 1 := rfl;simp (disch := omega) only [go_sem, e0, e3, e111, e112, e113, g0, z0];intro p2 hp2; dsimp only at hp2;simp (disch := omega) only [go_sem, e0, e3, e111, e112, e113];refine (put1 hG wThen hp2 hCr (by simp only [ifT, List.append_nil, List.length_append, List.length_cons, List.length_nil] at hle3 hlen ⊢; omega) hwj).mono ?_;rintro _ H2 ⟨rfl, h2⟩;have f2 := h2.keep c3 n3.symm;simp (disch := omega) only [go_sem, e0, e3, e111, e112, e113, f2, hll, hfl, hl1];refine (ih y (mem_parts_l (by rw [hx]; simp)) _ r _ _ hCr (by simp only [ifT, List.append_nil, List.length_append, List.length_cons, List.length_nil] at hle3 hlen ⊢; omega) h2).mono ?_;rintro _ H4 ⟨rfl, h4⟩;simp (disch := omega) only [go_sem, e0, e3, e111, e112, e113];refine ⟨2, _, GhostS.refl _, (hI _ _ _).2 ?_, by omega⟩;simp (disch := omega) only [go_sem, e0, e3, e111, e112, e113, w2];(repeat' apply And.intro) <;> (try first | rfl | assumption | omega);simpa [ifT] using h4
   ·have z0 : ((2 : Nat) : Int) = 2 := rfl;simp (disch := omega) only [go_sem, e0, e3, e111, e112, e113, g0, z0];intro p2 hp2; dsimp only at hp2;simp (disch := omega) only [go_sem, e0, e3, e111, e112, e113];refine (put1 hG wElse hp2 hCr (by simp only [ifT, List.append_nil, List.length_append, List.length_cons, List.length_nil] at hle3 hlen ⊢; omega) hwj).mono ?_;rintro _ H2 ⟨rfl, h2⟩;have f2 := h2.keep c3 n3.symm;simp (disch := omega) only [go_sem, e0, e3, e111, e112, e113, f2, hll, hfl, hl2];refine (ih z (mem_parts_l (by rw [hx]; simp)) _ r _ _ hCr (by simp only [ifT, List.append_nil, List.length_append, List.length_cons, List.length_nil] at hle3 hlen ⊢; omega) h2).mono ?_;rintro _ H4 ⟨rfl, h4⟩;simp (disch := omega) only [go_sem, e0, e3, e111, e112, e113];refine ⟨3, _, GhostS.refl _, (hI _ _ _).2 ?_, by omega⟩;simp (disch := omega) only [go_sem, e0, e3, e111, e112, e113, w3];(repeat' apply And.intro) <;> (try first | rfl | assumption | omega);simpa [ifT] using h4
   ·have z0 : ((3 : Nat) : Int) = 3 := rfl;simp (disch := omega) only [go_sem, e0, e3, e111, e112, e113, g0, z0];intro p2 hp2; dsimp only at hp2;simp (disch := omega) only [go_sem, e0, e3, e111, e112, e113];refine (put1 hG wShut hp2 hCr (by simp only [List.length_append] at hlen ⊢; omega) hwj).mono ?_;rintro _ H2 ⟨rfl, h2⟩;simp (disch := omega) only [go_sem, e0];refine DFin.refl ⟨rfl, ?_⟩;rw [hC] at h2;have := (h2.drop hB0).drop hB3;rw [List.append_assoc] at this;exact this
 have z10 := hk; clear hk;by_cases hk : e.kind = 11
 ·obtain ⟨⟨x, hx⟩, ⟨o, ho, ho2⟩, _⟩ := ff11 hk hf;have ht : toksE e = (wordsN o).map wTok ++ partE x (leastM e) := by rw [toks11 hk, ho, Int.toNat_natCast]; unfold pE tE; rw [hx]; rfl
  rw [ht] at hlen ⊢
  have hnm : namedE e = false := by cases h : namedE e with | false => rfl | true => exact (nm_not (by omega) h).elim
  rw [hnm];simp (disch := omega) only [go_sem, gr3, hk];refine (wmona_spec hG e x o hx ho (by omega) (ih x (mem_parts_l (by rw [hx]; simp))) _ r _ _ hBK hlen hwK).mono ?_;rintro _ H1 ⟨rfl, h1⟩;simp (disch := omega) only [go_sem];exact DFin.refl ⟨rfl, h1.drop hB3⟩
 have z11 := hk; clear hk;by_cases hk : e.kind = 12
 ·obtain ⟨⟨x, y, hx⟩, ⟨o, ho, ho2⟩, _⟩ := ff12 hk hf;have ht : toksE e = partE x (leastL e) ++ ((wordsN o).map wTok ++ partE y (leastR e)) := by rw [toks12 hk, ho, Int.toNat_natCast]; unfold pE tE; rw [hx]; rfl
  rw [ht] at hlen ⊢
  have hnm : namedE e = false := by cases h : namedE e with | false => rfl | true => exact (nm_not (by omega) h).elim
  rw [hnm];simp (disch := omega) only [go_sem, gr3, hk];refine (wdyad_spec hG e x y o hx ho (by omega) (ih x (mem_parts_l (by rw [hx]; simp))) (ih y (mem_parts_l (by rw [hx]; simp))) _ r _ _ hBK hlen hwK).mono ?_;rintro _ H1 ⟨rfl, h1⟩;simp (disch := omega) only [go_sem];exact DFin.refl ⟨rfl, h1.drop hB3⟩
 have z12 := hk; clear hk;have hkd : e.kind = 13 ∨ e.kind = 14 := by
  by_cases h : e.kind = 13 ∨ e.kind = 14
  ·exact h
  ·exfalso;have : fieldsE e = false := by
    unfold fieldsE;rw [if_neg z1, if_neg z2, if_neg z3, if_neg (by omega), if_neg z5, if_neg z7, if_neg z8, if_neg z9, if_neg z10, if_neg z11, if_neg z12, if_neg h]
   rw [this] at hf; cases hf
 obtain ⟨hx', _⟩ := ff134 hkd hf;have hx : ∃ x, (∃ y z, e.l = [x, y, z]) ∨ ∃ y, e.l = [x, y] := by
  rcases hx' with ⟨x, y, z, hx⟩ | ⟨x, y, hx, _⟩
  ·exact ⟨x, .inl ⟨y, z, hx⟩⟩
  ·exact ⟨x, .inr ⟨y, hx⟩⟩
 clear hx';obtain ⟨x, hx⟩ := hx;have g0 : e.l.getD 0 ex0 = x ∧ 0 < e.l.length := by rcases hx with ⟨y, z, hx⟩ | ⟨y, hx⟩ <;> (rw [hx]; exact ⟨rfl, by simp⟩)
 have hp0 : pE e 0 2 = partE x 2 := by rw [pE_at g0.2, g0.1]
 have hihl : ∀ y ∈ e.l, WrC Tryz.prog G 53 [.agg (dEx y)] (toksE y) := fun y hy => ih y (mem_parts_l hy);have hnm : namedE e = false := by cases h : namedE e with | false => rfl | true => exact (nm_not (by omega) h).elim
 rw [hnm];by_cases hk : e.kind = 13
 ·have ht : toksE e = partE x 2 ++ ([wIn].map wTok ++ tailE e) := by rw [toks13 hk, hp0]; rfl
  rw [ht] at hlen ⊢
  simp (disch := omega) only [go_sem, gr3, hk];intro q1 hq1; dsimp only at hq1;simp (disch := omega) only [go_sem];refine DCalls.fzA q1 hq1 ?_;simp only [fzs, fz, if_neg (hwK.ne hq1), if_pos, fz_dEx];refine (winside_spec hG e x [wIn] hx hihl _ r _ _ hBK hlen hwK).mono ?_;rintro _ H1 ⟨rfl, h1⟩;simp (disch := omega) only [go_sem];exact DFin.refl ⟨rfl, h1.drop hB3⟩
 ·have hk14 : e.kind = 14 := by omega
  have ht : toksE e = partE x 2 ++ ([wNot, wIn].map wTok ++ tailE e) := by rw [toks14 hk14, hp0]; rfl
  rw [ht] at hlen ⊢
  simp (disch := omega) only [go_sem, gr3, hk14];intro q1 hq1; dsimp only at hq1;simp (disch := omega) only [go_sem];refine DCalls.fzA q1 hq1 ?_;simp only [fzs, fz, if_neg (hwK.ne hq1), if_pos, fz_dEx];refine (winside_spec hG e x [wNot, wIn] hx hihl _ r _ _ hBK hlen hwK).mono ?_;rintro _ H1 ⟨rfl, h1⟩;simp (disch := omega) only [go_sem];exact DFin.refl ⟨rfl, h1.drop hB3⟩
end
end Go.Dl

-- Chapter 3: expressions: the plain laws, part 15: how many tokens an expression has.
namespace Go.Dl
open Go
set_option maxRecDepth 10000
def wt (l : List Ex) : Nat := (l.map fun x => (toksE x).length + 7).sum
theorem wt_append (l m : List Ex) : wt (l ++ m) = wt l + wt m := by simp [wt]
theorem wt_cons (x : Ex) (l : List Ex) : wt (x :: l) = (toksE x).length + 7 + wt l := by simp [wt]
theorem wt_nil : wt [] = 0 := rfl
theorem partE_len (x : Ex) (lv : Int) : (partE x lv).length ≤ (toksE x).length + 2 := by
 rw [partE, parT_len]; split <;> omega
theorem toksC_len {n : Nat} {c : Ch} (h : rightC n c = true) : (toksC c).length + 1 ≤ wt c.l + if c.kind = 3 then 2 else 0 := by
 unfold rightC at h;by_cases c1 : c.kind = 1
 ·rw [if_pos c1, decide_eq_true_eq] at h;obtain ⟨x, hx⟩ := len1 h;rw [toksC_eq, if_pos c1, hx, wt_cons];show (toksE x).length + 1 ≤ _;omega
 ·rw [if_neg c1] at h;by_cases c2 : c.kind = 2
  ·rw [if_pos c2, decide_eq_true_eq] at h;obtain ⟨x, y, hx⟩ := len2 h;rw [toksC_eq, if_neg c1, if_pos c2, hx, wt_cons, wt_cons];show (partE x 2 ++ wTok wDots :: partE y 2).length + 1 ≤ _;have := partE_len x 2;have := partE_len y 2;rw [List.length_append, List.length_cons]; omega
  ·rw [if_neg c2] at h;simp only [Bool.and_eq_true, decide_eq_true_eq] at h;rw [toksC_eq, if_neg c1, if_neg c2, if_pos h.1.1];show 1 + 1 ≤ _;omega
theorem sumT_cons (t : List Tok) (ta : List (List Tok)) : sumT (t :: ta) = t.length + 1 + sumT ta := by simp [sumT]
theorem choices_len {n : Nat} (hn : n ≠ 1) : ∀ (l : List Ch), l.length ≤ n → (∀ c ∈ l, rightC n c = true) → sumT (l.map toksC) ≤ wt (l.flatMap Ch.l)
 | [], _, _ => Nat.zero_le _
 | c :: r, hl, h => by
  have ih := choices_len hn r (by rw [List.length_cons] at hl; omega) fun d hd => h d (by simp [hd]);have hc := h c (by simp);have h1 := toksC_len hc;rw [if_neg] at h1
  ·rw [List.map_cons, sumT_cons, List.flatMap_cons, wt_append]; omega
  ·intro c3;unfold rightC at hc;rw [if_neg (by omega), if_neg (by omega)] at hc;simp only [Bool.and_eq_true, decide_eq_true_eq, List.length_cons] at hc hl;omega
theorem right_len {l : List Ch} (h : rightCs l = true) : (sepT wBar (l.map toksC)).length ≤ wt (l.flatMap Ch.l) + 2 := by
 simp only [rightCs, Bool.and_eq_true, decide_eq_true_eq, List.all_eq_true] at h
 have h0 := sumT_len wBar (l.map toksC) (by intro e; rw [List.map_eq_nil_iff] at e; rw [e] at h; simp at h)
 by_cases hn : l.length = 1
 ·match l, hn with
  | [c], _ =>
   have h1 := toksC_len (h.2 c (by simp))
   have h2 : (if c.kind = 3 then 2 else 0) ≤ 2 := by split <;> omega
   rw [List.map_singleton, sumT_cons] at h0
   rw [List.map_singleton, List.flatMap_singleton]
   simp [sumT] at h0
   omega
 ·have := choices_len hn l (Nat.le_refl _) h.2
  omega
theorem simple_rights {l : List Ch} (h : simpleCs l = true) : rightCs l = true := by
 match l with
 | [c] =>
  simp only [simpleCs, Bool.and_eq_true, decide_eq_true_eq] at h
  simp only [rightCs, List.length_singleton, List.all_cons, List.all_nil, Bool.and_true, rightC, if_pos h.1]
  match hl : c.l with
  | [x] => rfl
  | [] => rw [hl] at h; cases h.2
  | _ :: _ :: _ => rw [hl] at h; cases h.2
 | [] => cases h
 | _ :: _ :: _ => cases h
theorem toksA_len {a : As} (h : (a.c.isEmpty || rightCs a.c) = true) : (toksA a).length + 1 ≤ wt (partsA a) := by
 rw [partsA, wt_append, wt_cons, wt_nil];by_cases c0 : a.c = []
 ·rw [toksA_eq, c0];show (toksE a.e).length + 1 ≤ _;omega
 ·have hr : rightCs a.c = true := by
   rw [Bool.or_eq_true] at h;rcases h with h | h
   ·exact absurd (List.isEmpty_iff.1 h) c0
   ·exact h
  have h1 := right_len hr;rw [toksA_eq, if_neg (by simpa using c0), List.length_append, List.length_cons];omega
theorem assocs_len : ∀ (l : List As), (∀ a ∈ l, (a.c.isEmpty || rightCs a.c) = true) → sumT (l.map toksA) ≤ wt (l.flatMap partsA)
 | [], _ => Nat.zero_le _
 | a :: r, h => by
  have ih := assocs_len r fun d hd => h d (by simp [hd]);have h1 := toksA_len (h a (by simp));rw [List.map_cons, sumT_cons, List.flatMap_cons, wt_append]; omega
theorem args_right {l : List As} (h : argsOk l = true) : ∀ a ∈ l, (a.c.isEmpty || rightCs a.c) = true := fun a ha => by
 rw [argsOk, Bool.and_eq_true, List.all_eq_true] at h;have := h.2 a ha;rw [Bool.or_eq_true] at this ⊢
 rcases this with h1 | h1
 ·exact .inl h1
 ·exact .inr (simple_rights h1)
theorem taE_len {l : List As} (h : ∀ a ∈ l, (a.c.isEmpty || rightCs a.c) = true) : (sepT wComma (l.map toksA)).length ≤ wt (l.flatMap partsA) := by
 have h1 := assocs_len l h;rw [sepT_len];unfold sumT at h1;unfold sepN; omega
theorem words_len (o : Nat) : (wordsN o).length ≤ 2 := by
 rw [wordsN, List.getD];by_cases h : o < 22
 ·have : ∀ i : Fin 22, ((wordsL[i.1]?).getD []).length ≤ 2 := by decide
  exact this ⟨o, h⟩
 ·rw [List.getElem?_eq_none (by have : wordsL.length = 22 := rfl; omega)]; decide
theorem toksE_len1 {e : Ex} (hf : fieldsE e = true) : (toksE e).length ≤ 10 + wt (parts e) := by
 have hpl : wt (parts e) = wt e.l + wt (e.a.flatMap partsA) := wt_append _ _;by_cases k1 : e.kind = 1
 ·rw [toks1 k1]; show 1 ≤ _; omega
 by_cases k2 : e.kind = 2
 ·rw [toks2 k2]; show 1 ≤ _; omega
 by_cases k3 : e.kind = 3
 ·rw [toks3 k3]; show 1 ≤ _; omega
 by_cases k4 : e.kind = 4
 ·obtain ⟨⟨x, hx, _⟩, _⟩ := ff46 (.inl k4) hf;rw [toks4 k4, hpl, hx, wt_cons]; unfold tE; rw [hx, List.length_append];show (toksE x).length + 2 ≤ _; omega
 by_cases k5 : e.kind = 5
 ·obtain ⟨⟨x, hx, _⟩, _⟩ := ff5 k5 hf;rw [toks5 k5, hpl, hx, wt_cons]; unfold tE; rw [hx, List.length_append];show (toksE x).length + 2 ≤ _; omega
 by_cases k6 : e.kind = 6
 ·obtain ⟨⟨x, hx, _⟩, _⟩ := ff46 (.inr k6) hf;rw [toks6 k6, hpl, hx, wt_cons]; unfold tE; rw [hx, List.length_append];show (toksE x).length + 2 ≤ _; omega
 by_cases k7 : e.kind = 7
 ·obtain ⟨⟨x, hx, _⟩, ha, _⟩ := ff7 k7 hf;have h1 := taE_len (args_right ha);rw [toks7 k7, hpl, hx, wt_cons]; unfold tE taE; rw [hx, List.length_append, List.length_cons, List.length_append];show (toksE x).length + (_ + 1 + 1) ≤ _; omega
 by_cases k8 : e.kind = 8
 ·obtain ⟨⟨x, y, hx, _⟩, _⟩ := ff8 k8 hf;rw [toks8 k8, hpl, hx, wt_cons, wt_cons]; unfold tE; rw [hx, List.length_append, List.length_cons, parT_len];show (toksE x).length + ((toksE y).length + _ + 1) ≤ _;split <;> omega
 by_cases k9 : e.kind = 9
 ·obtain ⟨hx, ha, _⟩ := ff9 k9 hf;rw [assocsOk, Bool.and_eq_true] at ha;have h1 := taE_len (fun a hm => assocAll_mem ha.2 a hm);rw [toks9 k9, hpl, List.length_cons, List.length_append]; unfold taE;show _ + 1 + 1 ≤ _; omega
 by_cases k10 : e.kind = 10
 ·obtain ⟨⟨x, y, z, hx⟩, _⟩ := ff10 k10 hf;rw [toks10 k10, hpl, hx, wt_cons, wt_cons, wt_cons]; unfold tE; rw [hx];simp only [List.length_append, List.length_cons];show (toksE x).length + ((toksE y).length + ((toksE z).length + _ + 1) + 1) + 1 + 1 ≤ _;simp only [List.length_nil]; omega
 by_cases k11 : e.kind = 11
 ·obtain ⟨⟨x, hx⟩, ⟨o, ho, _⟩, _⟩ := ff11 k11 hf;have := words_len e.oper.toNat;have := partE_len x (leastM e);have hp : pE e 0 (leastM e) = partE x (leastM e) := by unfold pE tE; rw [hx]; rfl
  rw [toks11 k11, hpl, hx, wt_cons, hp, List.length_append, List.length_map]; omega
 by_cases k12 : e.kind = 12
 ·obtain ⟨⟨x, y, hx⟩, _⟩ := ff12 k12 hf;have := words_len e.oper.toNat;have := partE_len x (leastL e);have := partE_len y (leastR e);have hp : pE e 0 (leastL e) = partE x (leastL e) := by unfold pE tE; rw [hx]; rfl
  have hq : pE e 1 (leastR e) = partE y (leastR e) := by unfold pE tE; rw [hx]; rfl
  rw [toks12 k12, hpl, hx, wt_cons, wt_cons, hp, hq, List.length_append, List.length_append, List.length_map]; omega
 by_cases h : e.kind = 13 ∨ e.kind = 14
 ·obtain ⟨hx', _⟩ := ff134 h hf;have hT : (pE e 0 2).length + (tailE e).length + 3 ≤ 10 + wt (parts e) := by
   rcases hx' with ⟨x, y, z, hx⟩ | ⟨x, y, hx, _⟩
   ·have := partE_len x 2;have := partE_len y 2;have := partE_len z 2;have hp : pE e 0 2 = partE x 2 := by unfold pE tE; rw [hx]; rfl
    have hq : tailE e = partE y 2 ++ wTok wDots :: partE z 2 := by unfold tailE pE tE; rw [hx]; rfl
    rw [hp, hq, hpl, hx, wt_cons, wt_cons, wt_cons, List.length_append, List.length_cons]; omega
   ·have := partE_len x 2;have hp : pE e 0 2 = partE x 2 := by unfold pE tE; rw [hx]; rfl
    have hq : tailE e = toksE y := by unfold tailE pE tE; rw [hx]; rfl
    rw [hp, hq, hpl, hx, wt_cons, wt_cons]; omega
  rcases h with k | k
  ·rw [toks13 k, List.length_append, List.length_cons]; omega
  ·rw [toks14 k, List.length_append, List.length_cons, List.length_cons]; omega
 exfalso;have : fieldsE e = false := by
  unfold fieldsE;rw [if_neg k1, if_neg k2, if_neg k3, if_neg (by omega), if_neg k5, if_neg k7, if_neg k8, if_neg k9, if_neg k10, if_neg k11, if_neg k12, if_neg h]
 rw [this] at hf; cases hf
theorem wt_le {l : List Ex} (h : ∀ x ∈ l, (toksE x).length + 7 ≤ 17 * sizeE x) : wt l ≤ 17 * sumE l := by
 induction l with
 | nil => exact Nat.zero_le _
 | cons x l ih =>
  have h1 := h x (by simp);have h2 := ih fun y hy => h y (by simp [hy]);rw [wt_cons, sumE, List.map_cons, List.sum_cons];unfold sumE at h2;omega
theorem toksE_len (e : Ex) : ∀ d, validE d e = true → (toksE e).length + 7 ≤ 17 * sizeE e := by
 refine Ex.ind (p := fun e => ∀ d, validE d e = true → (toksE e).length + 7 ≤ 17 * sizeE e) (fun e ih d hv => ?_) e;obtain ⟨hf, hp⟩ := valid_fields hv;have h1 := toksE_len1 hf;have h2 := wt_le fun x hx => ih x hx _ (hp x hx);rw [sizeE_sum e]; omega
theorem may_len {e : Ex} (h : mayE e = true) : (toksE e).length ≤ 5000 := by
 rw [mayE, Bool.and_eq_true, decide_eq_true_eq] at h;have := toksE_len e 1 h.1;omega
theorem mayAs_len {l : List As} (h : mayAs l = true) : (sepT wComma (l.map toksA)).length ≤ 5000 := by
 have h1 := may_len h;rw [toks7 rfl, List.length_append, List.length_cons, List.length_append] at h1;unfold taE at h1;have e1 : (Ex.mk 7 0 0 [] [exX] l 0 0 0).a = l := rfl;rw [e1] at h1;omega
theorem wt_may {l : List Ex} (h : ∀ x ∈ l, mayE x = true) : wt l ≤ 5007 * l.length := by
 induction l with
 | nil => exact Nat.zero_le _
 | cons x l ih =>
  have h1 := may_len (h x (by simp));have h2 := ih fun y hy => h y (by simp [hy]);rw [wt_cons, List.length_cons]; omega
theorem mayCs_len {l : List Ch} (h : mayCs l = true) : (sepT wBar (l.map toksC)).length ≤ 1000000 := by
 rw [mayCs, Bool.and_eq_true, List.all_eq_true] at h;have h1 := right_len h.1;have h2 := h.1;simp only [rightCs, Bool.and_eq_true, decide_eq_true_eq, List.all_eq_true] at h2;have h3 : ∀ x ∈ l.flatMap Ch.l, mayE x = true := fun x hx => by
  obtain ⟨c, hc, hx⟩ := List.mem_flatMap.1 hx;exact List.all_eq_true.1 (h.2 c hc) x hx
 have h4 := wt_may h3;have h5 : ∀ c ∈ l, c.l.length ≤ 2 := fun c hc => by
  have := h2.2 c hc;unfold rightC at this;split at this
  ·rw [decide_eq_true_eq] at this; omega
  ·split at this
   ·rw [decide_eq_true_eq] at this; omega
   ·simp only [Bool.and_eq_true, decide_eq_true_eq] at this; omega
 have h6 : ∀ m : List Ch, (∀ c ∈ m, c.l.length ≤ 2) → (m.flatMap Ch.l).length ≤ 2 * m.length := fun m => by
  induction m with
  | nil => intro _; exact Nat.zero_le _
  | cons c m ih =>
   intro hm;have := hm c (by simp);have := ih fun d hd => hm d (by simp [hd]);rw [List.flatMap_cons, List.length_append, List.length_cons]; omega
 have h7 := h6 l h5;omega
def tokensE (e : Ex) : List Tok × Int := if mayE e then (toksE e, 0) else ([], 2)
def tokensAs (l : List As) : List Tok × Int := if mayAs l then (sepT wComma (l.map toksA), 0) else ([], 2)
def tokensCs (l : List Ch) : List Tok × Int := if mayCs l then (sepT wBar (l.map toksC), 0) else ([], 2)
end Go.Dl

-- Chapter 3: the package's Tokens, ArgTokens, ChoiceTokens.
namespace Go.Dl
open Go Go.Proofs
set_option maxRecDepth 100000
section
variable {G : Nat → DVal}
theorem wexpr_all (hG : GX G) (e : Ex) : ∀ d, validE d e = true → WrC Tryz.prog G 53 [.agg (dEx e)] (toksE e) := by
 refine Ex.ind (p := fun e => ∀ d, validE d e = true → WrC Tryz.prog G 53 [.agg (dEx e)] (toksE e)) (fun e ih d hv => ?_) e;obtain ⟨hf, hp⟩ := valid_fields hv;exact wexpr_step hG e hf fun x hx => ih x hx _ (hp x hx)
theorem may_valid {e : Ex} (h : mayE e = true) : validE 1 e = true := by
 rw [mayE, Bool.and_eq_true] at h; exact h.1
theorem wassoc_all (hG : GX G) (a : As) (h : (a.c.isEmpty || rightCs a.c) = true) (hv : ∃ d, ∀ x ∈ partsA a, validE d x = true) : WrC Tryz.prog G 89 [.agg (dAs a)] (toksA a) := by
 obtain ⟨d, hv⟩ := hv;exact wassoc_spec hG a (right_right h) fun y hy => wexpr_all hG y d (hv y hy)
theorem WAt.start {B : DHeap} {r : Nat} (hr : B r = none) : WAt B r [] (upd B r (some (.cells [.nilSlice] 83))) := ⟨_, .inl ⟨rfl, rfl, rfl, Sub.refl _⟩⟩
theorem WAt.cell {B H : DHeap} {r : Nat} {ts : List Tok} (h : WAt B r ts H) (hr : B r = none) : ∃ v, H r = some (.cells [v] 83) ∧ Seen H v B (dToks ts) := by
 obtain ⟨v, h⟩ := h;exact ⟨v, h.keep (upd_same _ _ _), Seen.own (h.less ((Sub.refl B).up hr _))⟩
set_option maxHeartbeats 4000000 in
theorem tokens_spec (hG : GX G) (H : DHeap) (e : Ex) (he : Fit e) : DCalls Tryz.prog G 11 [.agg (dEx e)] H (DRet (.tuple [dToks (tokensE e).1, dI (tokensE e).2]) H) := by
 rw [tokensE];refine dcalls_intro Tryz.func11 Tryz.call11 rfl (by kernel_rfl) ?_;simp (disch := omega) only [go_sem, DVal.cells];intro r1 hr1; dsimp only at hr1;obtain ⟨K, hK⟩ : ∃ K', K' = upd H r1 (some (.cells (dEx e) 27)) := ⟨_, rfl⟩;rw [← hK];have gr1 : K r1 = some (.cells (dEx e) 27) := by rw [hK]; exact upd_same _ _ _
 have hs : Sub H K := by rw [hK]; exact (Sub.refl H).new hr1 _
 simp (disch := omega) only [go_sem, gr1];refine (may_spec hG K e he).mono ?_;rintro _ K1 ⟨rfl, rfl⟩;cases hm : mayE e with
 | false =>
  simp (disch := omega) only [go_sem];exact Seen.fin hs (Seen.tuple (.cons (Seen.nil hs) (Seens.keep hs _))) ⟨rfl, rfl⟩
 | true =>
  have hlen := may_len hm;simp (disch := omega) only [go_sem];intro r2 hr2; dsimp only at hr2;have n12 : r1 ≠ r2 := none_ne hr2 gr1;have m12 := n12.symm;have hw := WAt.start hr2;have g1 : upd K1 r2 (some (.cells [.nilSlice] 83)) r1 = some (.cells (dEx e) 27) := keepU gr1 n12;simp (disch := omega) only [go_sem, g1];refine (wexpr_all hG e 1 (may_valid hm) K1 r2 [] _ hr2 (by simp; omega) hw).mono ?_;rintro _ H1 ⟨rfl, h1⟩;rw [List.nil_append] at h1;have hs1 : Sub K1 H1 := by
   obtain ⟨v, h1⟩ := h1;exact (((Sub.refl K1).up hr2 _).trans h1.sub)
  obtain ⟨v, hv1, hv2⟩ := h1.cell hr2;simp (disch := omega) only [go_sem, hv1];have hsf : Sub H H1 := hs.trans hs1;refine Seen.fin hsf (Seen.tuple (.cons (fun w hw x hx => Rel.lasts (lasts_sub hs w) _ _ (hv2 w hw x hx)) (Seens.keep hsf _))) ⟨rfl, rfl⟩
theorem mayAs_valid {l : List As} (h : mayAs l = true) : (∀ a ∈ l, (a.c.isEmpty || rightCs a.c) = true) ∧ (∀ a ∈ l, ∀ x ∈ partsA a, validE 2 x = true) ∧ l.length ≤ 1000000000 := by
 obtain ⟨hf, hp⟩ := valid_fields (may_valid h);have ha := (ff7 rfl hf).2.1;change argsOk l = true at ha;refine ⟨args_right ha, fun a hm x hx => hp x (mem_parts_a hm hx), ?_⟩;rw [argsOk, Bool.and_eq_true, Bool.and_eq_true, Bool.and_eq_true, decide_eq_true_eq, decide_eq_true_eq] at ha;omega
theorem mayCs_valid {l : List Ch} (h : mayCs l = true) : (∀ c ∈ l, rightC l.length c = true ∧ ∀ x ∈ c.l, mayE x = true) ∧ l.length ≤ 1000000000 := by
 rw [mayCs, Bool.and_eq_true, List.all_eq_true] at h;have h2 := h.1;simp only [rightCs, Bool.and_eq_true, decide_eq_true_eq, List.all_eq_true] at h2;exact ⟨fun c hc => ⟨h2.2 c hc, List.all_eq_true.1 (h.2 c hc)⟩, by omega⟩
set_option maxHeartbeats 4000000 in
theorem argTokens_spec (hG : GX G) (H : DHeap) (l : List As) (hb : bigAs l ≤ 1000000000000) (hk : okAs l) : DCalls Tryz.prog G 38 [dAl l] H (DRet (.tuple [dToks (tokensAs l).1, dI (tokensAs l).2]) H) := by
 rw [tokensAs];refine dcalls_intro Tryz.func38 Tryz.call38 rfl (by kernel_rfl) ?_;simp (disch := omega) only [go_sem];refine (mayArgs_spec hG H l hb hk).mono ?_;rintro _ K1 ⟨rfl, rfl⟩;cases hm : mayAs l with
 | false =>
  simp (disch := omega) only [go_sem];exact Seen.fin (Sub.refl _) (Seen.tuple (.cons (Seen.nil (Sub.refl _)) (Seens.keep (Sub.refl _) _))) ⟨rfl, rfl⟩
 | true =>
  have hlen := mayAs_len hm;simp (disch := omega) only [go_sem];intro r2 hr2; dsimp only at hr2;have hw := WAt.start hr2;simp (disch := omega) only [go_sem];refine (wlistA_spec hG l wComma (mayAs_valid hm).2.2 (fun a ha => wassoc_all hG a ((mayAs_valid hm).1 a ha) ⟨2, (mayAs_valid hm).2.1 a ha⟩) K1 r2 [] _ hr2 (by simp; omega) hw).mono ?_;rintro _ H1 ⟨rfl, h1⟩;rw [List.nil_append] at h1;have hs1 : Sub K1 H1 := by
   obtain ⟨v, h1⟩ := h1;exact (((Sub.refl K1).up hr2 _).trans h1.sub)
  obtain ⟨v, hv1, hv2⟩ := h1.cell hr2;simp (disch := omega) only [go_sem, hv1];exact Seen.fin hs1 (Seen.tuple (.cons hv2 (Seens.keep hs1 _))) ⟨rfl, rfl⟩
set_option maxHeartbeats 4000000 in
theorem choiceTokens_spec (hG : GX G) (H : DHeap) (l : List Ch) (hb : bigCs l ≤ 1000000000000) (hk : okCs l) : DCalls Tryz.prog G 40 [dCl l] H (DRet (.tuple [dToks (tokensCs l).1, dI (tokensCs l).2]) H) := by
 rw [tokensCs];refine dcalls_intro Tryz.func40 Tryz.call40 rfl (by kernel_rfl) ?_;simp (disch := omega) only [go_sem];refine (mayChoices_spec hG H l hb hk).mono ?_;rintro _ K1 ⟨rfl, rfl⟩;cases hm : mayCs l with
 | false =>
  simp (disch := omega) only [go_sem];exact Seen.fin (Sub.refl _) (Seen.tuple (.cons (Seen.nil (Sub.refl _)) (Seens.keep (Sub.refl _) _))) ⟨rfl, rfl⟩
 | true =>
  have hlen := mayCs_len hm;simp (disch := omega) only [go_sem];intro r2 hr2; dsimp only at hr2;have hw := WAt.start hr2;simp (disch := omega) only [go_sem];refine (wlistC_spec hG l wBar (mayCs_valid hm).2 (fun c hc => wchoice_spec hG c ((mayCs_valid hm).1 c hc).1 fun y hy => wexpr_all hG y 1 (may_valid (((mayCs_valid hm).1 c hc).2 y hy))) K1 r2 [] _ hr2 (by simp; omega) hw).mono ?_;rintro _ H1 ⟨rfl, h1⟩;rw [List.nil_append] at h1;have hs1 : Sub K1 H1 := by
   obtain ⟨v, h1⟩ := h1;exact (((Sub.refl K1).up hr2 _).trans h1.sub)
  obtain ⟨v, hv1, hv2⟩ := h1.cell hr2;simp (disch := omega) only [go_sem, hv1];exact Seen.fin hs1 (Seen.tuple (.cons hv2 (Seens.keep hs1 _))) ⟨rfl, rfl⟩
end
end Go.Dl
