/- The data level and the contracts of the functions that are reached (part 10). -/
import Derived.Test.YtfekogpdmjbdkaaGreatDoorPbi
set_option linter.unusedSimpArgs false
set_option linter.unusedVariables false
set_option linter.unusedSectionVars false
-- Chapter 3: expressions: the plain laws, part 13: the tokens of an expression are read as that expression: each kind.
namespace Go.Dl
open Go
set_option maxRecDepth 10000
theorem aggr_many {az : List As} (h : oneBare az = false) (li : Int) : aggr li az = .mk 9 0 0 [] [] az li 0 0 := by
 match az, h with
 | [], _ => rfl
 | [x], h =>
  show (if x.c = [] then x.e else _) = _
  rw [if_neg]
  intro c
  simp [oneBare, c] at h
 | _ :: _ :: _, _ => rfl
theorem assocAll_mem : ∀ {l : List As}, assocAll l = true → ∀ a ∈ l, (a.c.isEmpty || rightCs a.c) = true
 | [], _, a, h => by cases h
 | b :: r, h, a, hm => by
  rw [assocAll, Bool.and_eq_true] at h
  rcases List.mem_cons.1 hm with rfl | hm
  ·have := h.1
   rw [Bool.or_eq_true] at this ⊢
   rcases this with h1 | h1
   ·exact .inl h1
   ·rw [Bool.and_eq_true] at h1; exact .inr h1.1
  ·exact assocAll_mem h.2 a hm
theorem okThen {α β : Type} (x : α) (k : Nat) (f : α → Nat → Res β) : (Res.ok x k).then f = f x k := rfl
theorem must_pos {l : List Tok} {α : Type} {s : List UInt8} {k : Nat} {f : Nat → Res α} (h : isW l k [s] = true) : must l s k f = f (k + 1) := by rw [must, if_pos h]
section
variable {l : List Tok} {k k' : Nat} {s : List UInt8} {p : PS} [hr : Rdr l p] {e : Ex}
variable (hz : ∀ k, (tk l k).line = 0) (hf : fieldsE e = true) (ih : ∀ x ∈ parts e, RT l p x)
include hf hz
theorem rt1 (h : e.kind = 1) : RT l p e := by
 obtain ⟨a, b, c, d⟩ := ff1 h hf
 intro k hat
 rw [toks1 h] at hat ⊢
 refine .of5 ⟨hat.1, hat.le⟩ (lv5 (by omega)) (fun c => (nm_not (by omega) c).elim) (fun c => by rw [h] at c; cases c) fun _ => ?_
 have ht := hat.head.1
 rw [q_primary hat.1, ht, if_pos (show (inTok e.n).kind = 3 from rfl), stE_eq, h, a, b, c, d]; rfl
theorem rt2 (h : e.kind = 2) : RT l p e := by
 obtain ⟨a, b, c, d, d2⟩ := ff2 h hf
 intro k hat
 rw [toks2 h] at hat ⊢
 refine .of5 ⟨hat.1, hat.le⟩ (lv5 (by omega)) (fun c => (nm_not (by omega) c).elim) (fun c => by rw [h] at c; cases c) fun _ => ?_
 have hw := At.word hat
 rw [q_primary hat.1, if_neg (word_kind hw).2.1, if_pos hw, hz, stE_eq, h, a, b, c, d, d2]; rfl
theorem rt3 (h : e.kind = 3) : RT l p e := by
 intro k hat
 rw [toks3 h] at hat ⊢
 refine .ofName ⟨hat.1, hat.le⟩ (nm_of (by omega)) ?_
 have ht := hat.head.1
 rw [q_name hat.1, takeN, if_pos (by rw [ht]; rfl), hz, ht, toks_named h hf]; rfl
include ih
theorem rt4 (h : e.kind = 4) : RT l p e := by
 obtain ⟨⟨x, hx, hn⟩, b, c, d⟩ := ff46 (.inl h) hf
 have ht : toksE e = toksE x ++ [wTok wDot, nmTok e.s] := by rw [toks4 h]; unfold tE; rw [hx]; rfl
 intro k hat
 rw [ht] at hat ⊢
 have r := ih x (mem_parts_l (by rw [hx]; simp)) k hat.left
 have h1 := hat.right
 have h2 : At l (k + (toksE x).length + 1) [nmTok e.s] := At.tail h1
 have h3 := h2.head.1
 have w1 : isW l (k + (toksE x).length) [wDot] = true := At.word h1
 have w4 : isW l (k + (toksE x).length + 1) [wAll] = false := nof_isW (ws := [wAll]) (by rw [h3]; exact nof_kind (.inl rfl)) (by simp) []
 refine .ofName ⟨hat.1, hat.le⟩ (nm_of (by omega)) ?_
 rw [r.name hn, q_nameL _ _ r.le.2, isW2 (s := wDot) (t := wAll), w4, Bool.and_false, if_neg (by simp), if_pos w1, takeN, if_pos (by rw [h3]; rfl), h3, stE_eq e, h, hx, b, c, d, List.length_append]; rfl
theorem rt5 (h : e.kind = 5) : RT l p e := by
 obtain ⟨⟨x, hx, hn⟩, b, c, d, d2⟩ := ff5 h hf
 have ht : toksE e = toksE x ++ [wTok wDot, wTok wAll] := by rw [toks5 h]; unfold tE; rw [hx]; rfl
 intro k hat
 rw [ht] at hat ⊢
 have r := ih x (mem_parts_l (by rw [hx]; simp)) k hat.left
 have w1 : isW l (k + (toksE x).length) [wDot, wAll] = true := At.words (ws := [wDot, wAll]) (ts := []) hat.right
 refine .ofName ⟨hat.1, hat.le⟩ (nm_of (by omega)) ?_
 rw [r.name hn, q_nameL _ _ r.le.2, if_pos w1, stE_eq e, h, hx, b, c, d, d2, List.length_append]; rfl
theorem rt6 (h : e.kind = 6) : RT l p e := by
 obtain ⟨⟨x, hx, hn⟩, b, c, d⟩ := ff46 (.inr h) hf
 have ht : toksE e = toksE x ++ [wTok wTick, nmTok e.s] := by rw [toks6 h]; unfold tE; rw [hx]; rfl
 intro k hat
 rw [ht] at hat ⊢
 have r := ih x (mem_parts_l (by rw [hx]; simp)) k hat.left
 have h1 := hat.right
 have h2 : At l (k + (toksE x).length + 1) [nmTok e.s] := At.tail h1
 have h3 := h2.head.1
 have w1 : isW l (k + (toksE x).length) [wTick] = true := At.word h1
 have w2 : isW l (k + (toksE x).length) [wDot] = false := isW1_ne w1 (by decide)
 have w4 : isW l (k + (toksE x).length + 1) [wOpen] = false := nof_isW (ws := [wOpen]) (by rw [h3]; exact nof_kind (.inl rfl)) (by simp) []
 refine .ofName ⟨hat.1, hat.le⟩ (nm_of (by omega)) ?_
 rw [r.name hn, q_nameL _ _ r.le.2, isW_cons_false w2, w2, isW1_ne w1 (t := wOpen) (by decide), isW2 (s := wTick) (t := wOpen), w4, Bool.and_false, if_neg (by simp), if_neg (by simp), if_neg (by simp), if_neg (by simp), if_pos w1, takeN, if_pos (by rw [h3]; rfl), h3, stE_eq e, h, hx, b, c, d, List.length_append]; rfl
theorem rt7 (hv : ∀ x ∈ parts e, fieldsE x = true) (h : e.kind = 7) : RT l p e := by
 obtain ⟨⟨x, hx, hn⟩, ha, b, c, d⟩ := ff7 h hf
 have ht : toksE e = toksE x ++ wTok wOpen :: (taE e ++ [wTok wShut]) := by rw [toks7 h]; unfold tE; rw [hx]; rfl
 intro k hat
 rw [ht] at hat ⊢
 have r := ih x (mem_parts_l (by rw [hx]; simp)) k hat.left
 have h1 := hat.right
 have h2 : At l (k + (toksE x).length + 1) (taE e ++ [wTok wShut]) := At.tail h1
 have h3 := h2.right
 have w1 : isW l (k + (toksE x).length) [wOpen] = true := At.word h1
 have w2 : isW l (k + (toksE x).length) [wDot] = false := isW1_ne w1 (by decide)
 have w3 := At.word h3
 rw [argsOk, Bool.and_eq_true, Bool.and_eq_true, Bool.and_eq_true, decide_eq_true_eq, decide_eq_true_eq, List.all_eq_true] at ha
 refine .ofName ⟨hat.1, hat.le⟩ (nm_of (by omega)) ?_
 cases hea : e.a with
 | nil => rw [hea] at ha; simp at ha
 | cons a az =>
  have hta : taE e = sepT wComma ((a :: az).map toksA) := by rw [taE, hea]
  obtain ⟨j, g1, g2, g3, g4, g5⟩ := list_rd1 (l := l) (f := p.arg) (fL := p.argsL) (sep := wComma) (W := wA) (g := toksA) (st := stA) (fun az k hk => q_argsL az hk) (by decide +kernel) (b := a) (r := az)
   (fun c hc k hat hno => arg_rd hz (ha.2 c (by rw [hea]; exact hc)) (fun y hy => ⟨hv y (mem_parts_a (by rw [hea]; exact hc) hy), ih y (mem_parts_a (by rw [hea]; exact hc) hy)⟩) hat hno) (by rw [← hta]; exact h2.left) rfl (by rw [← hta, h3.head.1]; decide +kernel) (by rw [← hta]; exact isW1_ne w3 (by decide))
  rw [r.name hn, q_nameL _ _ r.le.2, isW_cons_false w2, w2, if_neg (by simp), if_neg (by simp), if_pos w1, g1]
  show (p.argsL [stA a] j).then _ = _
  rw [g2]
  show must l wShut _ (fun k => p.nameL 0 (.mk 7 0 0 [] [stE x] ((a :: az).map stA) 0 0 0) k) = _
  rw [must, ← hta, if_pos w3, stE_eq e, h, hx, b, c, d, hea, List.length_append, List.length_cons, List.length_append]
  congr 1
  simp only [List.length_cons, List.length_nil]; omega
theorem rt8 (h : e.kind = 8) : RT l p e := by
 obtain ⟨⟨x, y, hx, hn⟩, b, c, d, d2⟩ := ff8 h hf
 have ht : toksE e = toksE x ++ wTok wTick :: parT (!bareK y.kind) (toksE y) := by rw [toks8 h]; unfold tE; rw [hx]; rfl
 intro k hat
 rw [ht] at hat ⊢
 have r := ih x (mem_parts_l (by rw [hx]; simp)) k hat.left
 have hy := ih y (mem_parts_l (by rw [hx]; simp))
 have h1 := hat.right
 have h2 : At l (k + (toksE x).length + 1) (parT (!bareK y.kind) (toksE y)) := At.tail h1
 have w1 : isW l (k + (toksE x).length) [wTick] = true := At.word h1
 have w2 : isW l (k + (toksE x).length) [wDot] = false := isW1_ne w1 (by decide)
 have key : isW l (k + (toksE x).length + 1) [wOpen] = true ∧ p.paren (k + (toksE x).length + 1) = .ok (stE y) (k + (toksE x).length + 1 + (parT (!bareK y.kind) (toksE y)).length) := by
  cases hb : bareK y.kind with
  | true =>
   rw [hb] at h2
   have h2 : At l (k + (toksE x).length + 1) (toksE y) := h2
   have hpr := (hy _ h2).bare hb
   refine ⟨?_, hpr⟩
   have hy5 : y.kind = 9 ∨ y.kind = 10 := by simpa [bareK] using hb
   rcases hy5 with h9 | h9
   ·rw [toks9 h9] at h2; exact At.word h2
   ·rw [toks10 h9] at h2; exact At.word h2
  | false =>
   rw [hb] at h2
   have h2 : At l (k + (toksE x).length + 1) (wTok wOpen :: (toksE y ++ [wTok wShut])) := h2
   have h3 : At l (k + (toksE x).length + 1 + 1) (toksE y ++ [wTok wShut]) := At.tail h2
   have h4 := h3.right
   refine ⟨At.word h2, ?_⟩
   rw [paren_expr (At.word h2) ((hy _ h3.left).full (by rw [h4.head.1]; decide +kernel)) (At.word h4)]
   show _ = Res.ok _ (_ + (wTok wOpen :: (toksE y ++ [wTok wShut])).length)
   congr 1
   simp only [List.length_cons, List.length_append, List.length_nil]; omega
 refine .ofName ⟨hat.1, hat.le⟩ (nm_of (by omega)) ?_
 rw [r.name hn, q_nameL _ _ r.le.2, isW_cons_false w2, w2, isW1_ne w1 (t := wOpen) (by decide), isW2, w1, key.1, if_neg (by simp), if_neg (by simp), if_neg (by simp), if_pos (by rfl), key.2]
 show p.nameL 0 _ _ = _
 rw [stE_eq e, h, hx, b, c, d, d2, List.length_append, List.length_cons]
 congr 1
 omega
theorem rt9 (h : e.kind = 9) : RT l p e := by
 obtain ⟨hl, ha, b, c, d⟩ := ff9 h hf
 intro k hat
 rw [toks9 h] at hat ⊢
 have h2 : At l (k + 1) (taE e ++ [wTok wShut]) := At.tail hat
 have h3 := h2.right
 have w3 := At.word h3
 have w0' := At.word hat
 rw [assocsOk] at ha
 simp only [Bool.and_eq_true, decide_eq_true_eq, Bool.not_eq_true'] at ha
 have hpar : p.paren k = .ok (stE e) (k + (wTok wOpen :: (taE e ++ [wTok wShut])).length) := by
  cases hea : e.a with
  | nil => rw [hea] at ha; simp at ha
  | cons a az =>
   have hta : taE e = sepT wComma ((a :: az).map toksA) := by rw [taE, hea]
   obtain ⟨j, g1, g2, g3, g4, g5⟩ := list_rd1 (l := l) (f := p.assoc) (fL := p.assocsL) (sep := wComma) (W := wA) (g := toksA) (st := stA) (fun az k hk => q_assocsL az hk) (by decide +kernel) (b := a) (r := az)
    (fun c hc k hat hno => assoc_rd (assocAll_mem ha.2 c (by rw [hea]; exact hc)) (fun y hy => ih y (mem_parts_a (by rw [hea]; exact hc) hy)) hat hno) (by rw [← hta]; exact h2.left) rfl (by rw [← hta, h3.head.1]; decide +kernel) (by rw [← hta]; exact isW1_ne w3 (by decide))
   rw [paren_assocs w0' g1 g2 (by rw [← hta]; exact w3), hz, aggr_many (by rw [oneBare_st, ← hea]; exact ha.1.2), stE_eq e, h, hl, b, c, d, hea, ← hta]
   congr 1
   simp only [List.length_cons, List.length_append, List.length_nil]; omega
 exact .of5 ⟨hat.1, hat.le⟩ (lv5 (by omega)) (fun c => (nm_not (by omega) c).elim) (fun _ => hpar) fun _ => by rw [prim_paren w0', hpar]
theorem rt10 (h : e.kind = 10) : RT l p e := by
 obtain ⟨⟨x, y, z, hx⟩, b, c, d, d2⟩ := ff10 h hf
 have ht : toksE e = wTok wOpen :: wTok wIf :: (toksE x ++ wTok wThen :: (toksE y ++ wTok wElse :: (toksE z ++ [wTok wShut]))) := by rw [toks10 h]; unfold tE; rw [hx]; rfl
 intro k hat
 rw [ht] at hat ⊢
 have w0' := At.word hat
 have h1 : At l (k + 1) (wTok wIf :: _) := At.tail hat
 have h2 := At.tail h1
 have h3 := h2.right
 have h4 := (At.tail h3)
 have h5 := h4.right
 have h6 := (At.tail h5)
 have h7 := h6.right
 have r1 := (ih x (mem_parts_l (by rw [hx]; simp)) _ h2.left).full (by rw [h3.head.1]; decide +kernel)
 have r2 := (ih y (mem_parts_l (by rw [hx]; simp)) _ h4.left).full (by rw [h5.head.1]; decide +kernel)
 have r3 := (ih z (mem_parts_l (by rw [hx]; simp)) _ h6.left).full (by rw [h7.head.1]; decide +kernel)
 have hpar : p.paren k = .ok (stE e) (k + (wTok wOpen :: wTok wIf :: (toksE x ++ wTok wThen :: (toksE y ++ wTok wElse :: (toksE z ++ [wTok wShut])))).length) := by
  rw [q_paren hat.1, must_pos w0', if_pos (At.word h1), r1]
  simp only [okThen, must_pos (At.word h3), r2, must_pos (At.word h5), r3, must_pos (At.word h7)]
  rw [hz, stE_eq e, h, hx, b, c, d, d2]
  congr 1
  simp only [List.length_cons, List.length_append, List.length_nil]; omega
 exact .of5 ⟨hat.1, hat.le⟩ (lv5 (by omega)) (fun c => (nm_not (by omega) c).elim) (fun _ => hpar) fun _ => by rw [prim_paren w0', hpar]
theorem rt11 (h : e.kind = 11) : RT l p e := by
 obtain ⟨⟨x, hx⟩, ⟨o, ho, ho2⟩, b, c, d⟩ := ff11 h hf
 have ht : toksE e = (wordsN o).map wTok ++ partE x (leastM e) := by rw [toks11 h, ho, Int.toNat_natCast]; unfold pE tE; rw [hx]; rfl
 have hlv : levelE e = if o = 18 ∨ o = 19 then 2 else 4 := by
  unfold levelE
  rw [h, ho, if_neg (by decide), if_pos rfl]
  rcases ho2 with rfl | rfl | rfl | rfl <;> rfl
 have hR := ih x (mem_parts_l (by rw [hx]; simp))
 intro k hat
 rw [ht] at hat ⊢
 have h1 := hat.right
 rw [List.length_map] at h1
 have hst : ∀ li, li = 0 → mona o li (stE x) = stE e := fun li hli => by
  rw [mona, if_neg (by omega), stE_eq e, h, ho, hx, b, c, d, hli]; rfl
 have e1 : k + ((wordsN o).map wTok ++ partE x (leastM e)).length = k + (wordsN o).length + (partE x (leastM e)).length := by rw [List.length_append, List.length_map]; omega
 by_cases c1 : o = 18 ∨ o = 19
 ·have hl2 : levelE e = 2 := by rw [hlv, if_pos c1]
  have hM : leastM e = 3 := by rw [leastM, if_pos hl2]
  rw [hM] at hat h1 e1 ⊢
  rw [e1]
  obtain ⟨q1, q2⟩ := op_at (want := 0) (.inr (.inl ⟨by simp [opsSign]; omega, rfl⟩)) hat (.inl rfl)
  refine .of2 ⟨hat.1, by have := h1.le; exact this⟩ hl2 fun hn => ?_
  rw [q_simple hat.1, q1]
  show (p.term (k + (wordsN o).length)).then _ = _
  rw [part3 hR h1 rfl (s53 hn), mulL_stop h1.le hn]
  show p.addL (mona o _ (stE x)) _ = _
  rw [hst _ (hz k)]
 ·have hl2 : levelE e = 4 := by rw [hlv, if_neg c1]
  have hM : leastM e = 5 := by rw [leastM, if_neg (by omega)]
  rw [hM] at hat h1 e1 ⊢
  rw [e1]
  obtain ⟨q1, q2⟩ := op_at (want := 0) (.inr (.inr (.inr (.inr ⟨by simp [opsFac]; omega, rfl⟩)))) hat (.inl rfl)
  refine .of4 ⟨hat.1, by have := h1.le; exact this⟩ hl2 fun hn => ?_
  rw [q_factor hat.1, q1]
  show (p.primary (k + (wordsN o).length)).then _ = _
  rw [part5 hR h1 rfl hn]
  show Res.ok (mona o _ (stE x)) _ = _
  rw [hst _ (hz k)]
end
end Go.Dl

-- Chapter 3: expressions: the plain laws, part 14: the tokens of an expression are read as that expression: operators, membership; all.
namespace Go.Dl
open Go
set_option maxRecDepth 10000
def hdW (o : Nat) : List UInt8 := (wordsN o).headD []
theorem hdW_eq : ∀ o, o < 18 → 1 ≤ o → wordsN o = hdW o :: (wordsN o).tail := by decide +kernel
theorem hdW_nof : ∀ o, o < 18 → 1 ≤ o → (o < 3 → nof w3 (wTok (hdW o))) ∧ (o < 7 → nof w5 (wTok (hdW o))) ∧ (7 ≤ o → o < 13 → nof w2 (wTok (hdW o))) ∧ (13 ≤ o → nof w1 (wTok (hdW o))) := by decide +kernel
section
variable {l : List Tok} {k k' : Nat} {s : List UInt8} {p : PS} [hr : Rdr l p] {e : Ex}
theorem op_head {o : Nat} {ts : List Tok} (h1 : 1 ≤ o) (h2 : o ≤ 17) (h : At l k ((wordsN o).map wTok ++ ts)) : tk l k = wTok (hdW o) := by
 rw [hdW_eq o (by omega) h1] at h
 exact (At.head h).1
theorem log_round {o : Nat} {x y : Ex} (h1 : 13 ≤ o) (h2 : o ≤ 17) (hR : RT l p y) (h : At l k ((wordsN o).map wTok ++ partE y 1)) (hk' : k' = k + (wordsN o).length + (partE y 1).length) (hn : nof w1 (tk l k')) (want : Nat) (hw : want = 0 ∨ want = o) :
  (opF l want k opsLog) = (o, k + (wordsN o).length) ∧ p.restL o x k = p.restL o (both o x (stE y)) k' := by
 have h3 := h.right
 rw [List.length_map] at h3
 have hrel := part1 hR h3 hk' hn
 have ho : o ∈ opsLog := by simp [opsLog]; omega
 have hs : ∃ z j, p.simple (k + (wordsN o).length) = .ok z j := by
  rw [relQ] at hrel
  cases c : p.simple (k + (wordsN o).length) with
  | bot => rw [c] at hrel; cases hrel
  | fail j => rw [c] at hrel; cases hrel
  | ok z j => exact ⟨z, j, rfl⟩
 obtain ⟨z, j, hs⟩ := hs
 have q : ∀ want, want = 0 ∨ want = o → opF l want k opsLog = (o, k + (wordsN o).length) := fun want hw => op_log ho h hw hs
 refine ⟨q want hw, ?_⟩
 rw [q_restL o x h.1, if_neg (by omega), q o (.inr rfl), if_neg (by dsimp only; omega)]
 have e1 : ((p.simple (k + (wordsN o).length)).then fun y k => (p.relation y k).then fun y k => p.restL o (both o x y) k) = (relQ p (k + (wordsN o).length)).then fun y k => p.restL o (both o x y) k := by rw [relQ, then_assoc]
 show ((p.simple (k + (wordsN o).length)).then fun y k => (p.relation y k).then fun y k => p.restL o (both o x y) k) = _
 rw [e1, hrel]; rfl
variable (hz : ∀ k, (tk l k).line = 0) (hf : fieldsE e = true) (ih : ∀ x ∈ parts e, RT l p x)
include hf ih
theorem rt12 (h : e.kind = 12) : RT l p e := by
 obtain ⟨⟨x, y, hx⟩, ⟨o, ho, ho1, ho2⟩, b, c, d⟩ := ff12 h hf
 have ht : toksE e = partE x (leastL e) ++ ((wordsN o).map wTok ++ partE y (leastR e)) := by rw [toks12 h, ho, Int.toNat_natCast]; unfold pE tE; rw [hx]; rfl
 have hlv : levelE e = if 13 ≤ o then 0 else if 7 ≤ o then 1 else if o ≤ 2 then 2 else 3 := by
  unfold levelE
  rw [h, ho, if_neg (by decide), if_neg (by decide), if_pos rfl]
  repeat' split
  all_goals omega
 have hX := ih x (mem_parts_l (by rw [hx]; simp))
 have hY := ih y (mem_parts_l (by rw [hx]; simp))
 have hst : stE e = both o (stE x) (stE y) := by
  rw [stE_eq e, h, ho, hx, b, c, d, both, stE_line]; rfl
 have g0 : e.l.getD 0 ex0 = x := by rw [hx]; rfl
 have hwn := hdW_nof o (by omega) ho1
 intro k hat
 rw [ht] at hat ⊢
 have h1 := hat.right
 have hhd := op_head ho1 ho2 h1
 have h2 := h1.right
 rw [List.length_map] at h2
 have e1 : k + (partE x (leastL e) ++ ((wordsN o).map wTok ++ partE y (leastR e))).length = k + (partE x (leastL e)).length + (wordsN o).length + (partE y (leastR e)).length := by
  rw [List.length_append, List.length_append, List.length_map]; omega
 have hle := hat.le
 rw [e1] at hle ⊢
 by_cases c13 : 13 ≤ o
 ·have hl : levelE e = 0 := by rw [hlv, if_pos c13]
  have hR : leastR e = 1 := by rw [leastR, hl]; rfl
  have hL : leastL e = if x.kind = 12 ∧ x.oper = o then 0 else 1 := by
   rw [leastL, hl, if_neg (by decide), g0, ho]
   by_cases cc : x.kind = 12 ∧ x.oper = o
   ·rw [if_pos cc, if_neg (by rintro ⟨_, a | a⟩; exact a cc.1; exact a cc.2)]
   ·rw [if_neg cc, if_pos ⟨rfl, by by_cases c1 : x.kind = 12; exact .inr fun a => cc ⟨c1, a⟩; exact .inl c1⟩]
  rw [hR] at h1 h2 hle ⊢
  refine .of0 ⟨hat.1, hle⟩ hl fun hn => ?_
  rw [hst, ho, Int.toNat_natCast]
  have hr1 := fun want hw => log_round (x := stE x) c13 ho2 hY h1 rfl hn want hw
  by_cases cc : x.kind = 12 ∧ x.oper = o
  ·rw [hL, if_pos cc] at hat hr1 hhd ⊢
   have hpx : partE x 0 = toksE x := by
    rw [partE, decide_eq_false (by have := (level_ge x).1; omega)]; rfl
   rw [hpx] at hat hr1 hhd ⊢
   have r := hX _ hat.left
   have hlx : levelE x = 0 := by
    unfold levelE
    rw [cc.1, cc.2, if_neg (by decide), if_neg (by decide), if_pos rfl, if_pos (by omega)]
   rw [r.exp hlx (by rw [hhd]; exact hwn.2.2.2 c13), cc.2, Int.toNat_natCast, (hr1 0 (.inl rfl)).2]
  ·rw [hL, if_neg cc] at hat hr1 hhd ⊢
   have hrel := part1 hX hat.left rfl (by rw [hhd]; exact hwn.2.2.2 c13)
   rw [expr_rel hat.1, hrel]
   show p.restL (opF l 0 _ opsLog).1 (stE x) _ = _
   rw [(hr1 0 (.inl rfl)).1, (hr1 0 (.inl rfl)).2]
 ·by_cases c7 : 7 ≤ o
  ·have hl : levelE e = 1 := by rw [hlv, if_neg c13, if_pos c7]
   have hR : leastR e = 2 := by rw [leastR, hl]; rfl
   have hL : leastL e = 2 := by rw [leastL, hl]; rfl
   rw [hL] at hat h1 h2 hhd hle ⊢
   rw [hR] at h1 h2 hle ⊢
   refine .of1 ⟨hat.1, hle⟩ hl fun hn => ?_
   have s1 := part2s hX hat.left rfl (by rw [hhd]; exact hwn.2.2.1 c7 (by omega))
   have s2 := part2s hY h2 rfl (s2d hn)
   obtain ⟨q1, q2⟩ := op_at (want := 0) (.inl ⟨by simp [opsRel]; omega, rfl⟩) h1 (.inl rfl)
   rw [hst, relQ, s1]
   show p.relation (stE x) _ = _
   rw [q_relation _ h1.1, q1, if_pos (by dsimp only; omega), s2]; rfl
  ·by_cases c2 : o ≤ 2
   ·have hl : levelE e = 2 := by rw [hlv, if_neg c13, if_neg c7, if_pos c2]
    have hR : leastR e = 3 := by rw [leastR, hl]; rfl
    have hL : leastL e = 2 := by rw [leastL, hl, if_neg (by decide), if_neg (by rintro ⟨a, _⟩; cases a)]
    rw [hL] at hat h1 h2 hhd hle ⊢
    rw [hR] at h1 h2 hle ⊢
    refine .of2 ⟨hat.1, hle⟩ hl fun hn => ?_
    obtain ⟨q1, q2⟩ := op_at (want := 0) (.inr (.inr (.inl ⟨by simp [opsAdd]; omega, rfl⟩))) h1 (.inl rfl)
    rw [hst, part2 hX hat.left rfl (by rw [hhd]; exact hwn.1 (by omega)), q_addL _ h1.1, q1, if_neg (by dsimp only; omega)]
    show (p.term (_ + (wordsN o).length)).then _ = _
    rw [part3 hY h2 rfl (s53 hn), mulL_stop hle hn]; rfl
   ·have hl : levelE e = 3 := by rw [hlv, if_neg c13, if_neg c7, if_neg c2]
    have hR : leastR e = 4 := by rw [leastR, hl]; rfl
    have hL : leastL e = 3 := by rw [leastL, hl, if_neg (by decide), if_neg (by rintro ⟨a, _⟩; cases a)]
    rw [hL] at hat h1 h2 hhd hle ⊢
    rw [hR] at h1 h2 hle ⊢
    refine .of3 ⟨hat.1, hle⟩ hl fun hn => ?_
    obtain ⟨q1, q2⟩ := op_at (want := 0) (.inr (.inr (.inr (.inl ⟨by simp [opsMul]; omega, rfl⟩)))) h1 (.inl rfl)
    rw [hst, part3 hX hat.left rfl (by rw [hhd]; exact hwn.2.1 (by omega)), q_mulL _ h1.1, q1, if_neg (by dsimp only; omega)]
    show (p.factor (_ + (wordsN o).length)).then _ = _
    rw [part4 hY h2 rfl hn]; rfl
theorem in_rd {j : Nat} {x : Ex} {kind : Int} (hkd : kind = 13 ∨ kind = 14) (h : e.kind = kind) (hx : (∃ y z, e.l = [x, y, z]) ∨ ∃ y, e.l = [x, y] ∧ namedE y = true) (b : e.oper = 0) (c : e.n = 0) (d : e.s = []) (d2 : e.a = []) (ha : At l j (tailE e)) (hk' : k' = j + (tailE e).length) (hn : nof w2d (tk l k')) :
  inK l (stE x) kind j p = .ok (stE e) k' := by
 rcases hx with ⟨y, z, hx⟩ | ⟨y, hx, hny⟩
 ·have hY := ih y (mem_parts_l (by rw [hx]; simp))
  have hZ := ih z (mem_parts_l (by rw [hx]; simp))
  have ht : tailE e = partE y 2 ++ wTok wDots :: partE z 2 := by unfold tailE pE tE; rw [hx]; rfl
  have hst : stE e = .mk kind 0 0 [] [stE x, stE y, stE z] [] 0 0 0 := by rw [stE_eq e, h, hx, b, c, d, d2]; rfl
  rw [ht] at ha hk'
  have h1 := ha.right
  have h2 : At l (j + (partE y 2).length + 1) (partE z 2) := At.tail h1
  have s1 := part2s hY ha.left rfl (by rw [h1.head.1]; decide +kernel)
  have s2 := part2s hZ h2 (k' := k') (by rw [hk', List.length_append, List.length_cons]; omega) (s2d hn)
  rw [inK, s1, okThen, if_pos (At.word h1), s2, okThen, hst, stE_line]
 ·have hY := ih y (mem_parts_l (by rw [hx]; simp))
  have ht : tailE e = toksE y := by unfold tailE pE tE; rw [hx]; rfl
  have hst : stE e = .mk kind 0 0 [] [stE x, stE y] [] 0 0 0 := by rw [stE_eq e, h, hx, b, c, d, d2]; rfl
  rw [ht] at ha hk'
  subst hk'
  have r := hY _ ha
  have s1 : p.simple j = .ok (stE y) (j + (toksE y).length) := by
   rw [r.simp (by rw [named_level hny]; decide) (s32 (s2d hn)), addL_stop r.le.2 (s2d hn)]
  rw [inK, s1, okThen, nof_isW hn (by decide), if_neg (by simp), named_st, hny, if_pos rfl, hst, stE_line]
theorem rt134 (hkd : e.kind = 13 ∨ e.kind = 14) : RT l p e := by
 obtain ⟨hx', b, c, d, d2⟩ := ff134 hkd hf
 have hx : ∃ x, (∃ y z, e.l = [x, y, z]) ∨ ∃ y, e.l = [x, y] ∧ namedE y = true := by
  rcases hx' with ⟨x, y, z, hx⟩ | ⟨x, y, hx⟩
  ·exact ⟨x, .inl ⟨y, z, hx⟩⟩
  ·exact ⟨x, .inr ⟨y, hx⟩⟩
 clear hx'
 obtain ⟨x, hx⟩ := hx
 have g0 : e.l.getD 0 ex0 = x ∧ 0 < e.l.length := by rcases hx with ⟨y, z, hx⟩ | ⟨y, hx, _⟩ <;> (rw [hx]; exact ⟨rfl, by simp⟩)
 have hX := ih x (mem_parts_l (by rcases hx with ⟨y, z, hx⟩ | ⟨y, hx, _⟩ <;> (rw [hx]; simp)))
 have hl : levelE e = 1 := by unfold levelE; rw [if_pos hkd]
 have hp0 : pE e 0 2 = partE x 2 := by rw [pE_at g0.2, g0.1]
 intro k hat
 rcases hkd with h | h
 ·rw [toks13 h, hp0] at hat ⊢
  have h1 := hat.right
  have hw := At.word h1
  have h2 : At l (k + (partE x 2).length + 1) (tailE e) := At.tail h1
  have e1 : k + (partE x 2 ++ wTok wIn :: tailE e).length = k + (partE x 2).length + 1 + (tailE e).length := by rw [List.length_append, List.length_cons]; omega
  rw [e1]
  refine .of1 ⟨hat.1, h2.le⟩ hl fun hn => ?_
  rw [relQ, part2s hX hat.left rfl (by rw [h1.head.1]; decide +kernel), okThen, q_relation _ h1.1, word_op hw (by decide), if_neg (by simp), if_pos hw]
  exact in_rd hf ih (.inl rfl) h hx b c d d2 h2 rfl hn
 ·rw [toks14 h, hp0] at hat ⊢
  have h1 := hat.right
  have hw := At.word h1
  have hw2 : isW l (k + (partE x 2).length) [wNot, wIn] = true := At.words (ws := [wNot, wIn]) h1
  have h2 : At l (k + (partE x 2).length + 2) (tailE e) := At.tail (At.tail h1)
  have e1 : k + (partE x 2 ++ wTok wNot :: wTok wIn :: tailE e).length = k + (partE x 2).length + 2 + (tailE e).length := by rw [List.length_append, List.length_cons, List.length_cons]; omega
  rw [e1]
  refine .of1 ⟨hat.1, h2.le⟩ hl fun hn => ?_
  rw [relQ, part2s hX hat.left rfl (by rw [h1.head.1]; decide +kernel), okThen, q_relation _ h1.1, word_op hw (by decide), if_neg (by simp), isW1_ne hw (t := wIn) (by decide), if_neg (by simp), if_pos hw2]
  exact in_rd hf ih (.inr rfl) h hx b c d d2 h2 rfl hn
end
theorem valid_fields {d : Nat} {e : Ex} (h : validE d e = true) : fieldsE e = true ∧ ∀ x ∈ parts e, validE (d + 1) x = true := by
 rw [validE_eq, Bool.and_eq_true, Bool.and_eq_true, List.all_eq_true] at h
 exact ⟨h.1.2, h.2⟩
theorem rt_all {l : List Tok} {p : PS} [hr : Rdr l p] (hz : ∀ k, (tk l k).line = 0) (e : Ex) : ∀ d, validE d e = true → RT l p e := by
 refine Ex.ind (p := fun e => ∀ d, validE d e = true → RT l p e) (fun e ih d hv => ?_) e
 obtain ⟨hf, hp⟩ := valid_fields hv
 have ih' : ∀ x ∈ parts e, RT l p x := fun x hx => ih x hx _ (hp x hx)
 have hvp : ∀ x ∈ parts e, fieldsE x = true := fun x hx => (valid_fields (hp x hx)).1
 by_cases c1 : e.kind = 1
 ·exact rt1 hz hf c1
 by_cases c2 : e.kind = 2
 ·exact rt2 hz hf c2
 by_cases c3 : e.kind = 3
 ·exact rt3 hz hf c3
 by_cases c4 : e.kind = 4
 ·exact rt4 hz hf ih' c4
 by_cases c5 : e.kind = 5
 ·exact rt5 hz hf ih' c5
 by_cases c6 : e.kind = 6
 ·exact rt6 hz hf ih' c6
 by_cases c7 : e.kind = 7
 ·exact rt7 hz hf ih' hvp c7
 by_cases c8 : e.kind = 8
 ·exact rt8 hz hf ih' c8
 by_cases c9 : e.kind = 9
 ·exact rt9 hz hf ih' c9
 by_cases c10 : e.kind = 10
 ·exact rt10 hz hf ih' c10
 by_cases c11 : e.kind = 11
 ·exact rt11 hz hf ih' c11
 by_cases c12 : e.kind = 12
 ·exact rt12 hf ih' c12
 by_cases c13 : e.kind = 13 ∨ e.kind = 14
 ·exact rt134 hf ih' c13
 exfalso
 have : fieldsE e = false := by
  unfold fieldsE
  rw [if_neg c1, if_neg c2, if_neg c3, if_neg (by omega), if_neg c5, if_neg c7, if_neg c8, if_neg c9, if_neg c10, if_neg c11, if_neg c12, if_neg c13]
 rw [this] at hf; cases hf
end Go.Dl

-- Chapter 3: the package's writer: bounds, operators, membership, choices.
namespace Go.Dl
open Go Go.Proofs
set_option maxRecDepth 100000
theorem lx0 {e : List Ex} {x : Ex} {r : List Ex} (h : e = x :: r) : (e.flatMap dEx).take 9 = dEx x := by
 rw [h, List.flatMap_cons, List.take_append_of_le_length (by rw [dEx_len]; omega), List.take_of_length_le (by rw [dEx_len]; omega)]
theorem lx1 {e : List Ex} {x y : Ex} {r : List Ex} (h : e = x :: y :: r) : ((e.flatMap dEx).drop 9).take 9 = dEx y := by
 rw [h, List.flatMap_cons, List.drop_left' (dEx_len x)]
 exact lx0 rfl
theorem lx2 {e : List Ex} {x y z : Ex} {r : List Ex} (h : e = x :: y :: z :: r) : ((e.flatMap dEx).drop 18).take 9 = dEx z := by
 rw [h, List.flatMap_cons, show 18 = 9 + 9 from rfl, ← List.drop_drop, List.drop_left' (dEx_len x)]
 exact lx1 rfl
section
variable {G : Nat → DVal}
set_option maxHeartbeats 4000000 in
theorem wbounds_spec (hG : GX G) (a b : Ex) (ha : WrC Tryz.prog G 53 [.agg (dEx a)] (toksE a)) (hb : WrC Tryz.prog G 53 [.agg (dEx b)] (toksE b)) : WrC Tryz.prog G 143 [.agg (dEx a), .agg (dEx b)] (partE a 2 ++ wTok wDots :: partE b 2) := by
 intro B r ts H hB hlen hw
 rw [List.length_append, List.length_cons] at hlen
 refine dcalls_intro Tryz.func143 Tryz.call143 rfl (by kernel_rfl) ?_
 simp (disch := omega) only [go_sem, DVal.cells]
 intro r4 hr4; dsimp only at hr4
 obtain ⟨K, hK⟩ : ∃ K', K' = upd H r4 (some (.cells (dEx a) 27)) := ⟨_, rfl⟩
 rw [← hK]
 have gr4 : K r4 = some (.cells (dEx a) 27) := by rw [hK]; exact upd_same _ _ _
 have hwK : WAt (upd B r4 (some (.cells (dEx a) 27))) r ts K := by rw [hK]; exact hw.frame hr4 _
 have n4 : r ≠ r4 := hw.ne hr4
 have hB4 : B r4 = none := (hw.lo hr4).1
 simp (disch := omega) only [go_sem, DVal.cells]
 intro r5 hr5; dsimp only at hr5
 obtain ⟨L, hL⟩ : ∃ K', K' = upd K r5 (some (.cells (dEx b) 27)) := ⟨_, rfl⟩
 rw [← hL]
 have gr5 : L r5 = some (.cells (dEx b) 27) := by rw [hL]; exact upd_same _ _ _
 have hwL : WAt (upd (upd B r4 (some (.cells (dEx a) 27))) r5 (some (.cells (dEx b) 27))) r ts L := by rw [hL]; exact hwK.frame hr5 _
 have n5 : r ≠ r5 := hwK.ne hr5
 have hB5 := (hwK.lo hr5).1
 have n45 : r4 ≠ r5 := none_ne hr5 gr4
 have gr4' : L r4 = some (.cells (dEx a) 27) := by rw [hL]; exact keepU gr4 n45
 obtain ⟨C, hC⟩ : ∃ C, C = upd (upd B r4 (some (.cells (dEx a) 27))) r5 (some (.cells (dEx b) 27)) := ⟨_, rfl⟩
 rw [← hC] at hwL
 have hCr : C r = none := by rw [hC, upd_ne _ _ _ _ n5, upd_ne _ _ _ _ n4]; exact hB
 have c4 : C r4 = some (.cells (dEx a) 27) := by rw [hC]; exact keepU (upd_same _ _ _) n45
 have c5 : C r5 = some (.cells (dEx b) 27) := by rw [hC]; exact upd_same _ _ _
 simp (disch := omega) only [go_sem, gr4']
 refine (wpart_spec hG a 2 ha C r _ _ hCr (by omega) hwL).mono ?_
 rintro _ H1 ⟨rfl, h1⟩
 simp (disch := omega) only [go_sem]
 intro q1 hq1; dsimp only at hq1
 simp (disch := omega) only [go_sem]
 refine (put1 hG wDots hq1 hCr (by simp; omega) h1).mono ?_
 rintro _ H2 ⟨rfl, h2⟩
 have g5 := h2.keep c5 n5.symm
 simp (disch := omega) only [go_sem, g5]
 refine (wpart_spec hG b 2 hb C r _ _ hCr (by simp; omega) h2).mono ?_
 rintro _ H3 ⟨rfl, h3⟩
 simp (disch := omega) only [go_sem]
 refine DFin.refl ⟨rfl, ?_⟩
 rw [hC] at h3
 have := (h3.drop hB5).drop hB4
 simpa using this
set_option maxHeartbeats 4000000 in
theorem wmona_spec (hG : GX G) (e x : Ex) (o : Nat) (hl : e.l = [x]) (ho : e.oper = o) (ho2 : o < 22) (hx : WrC Tryz.prog G 53 [.agg (dEx x)] (toksE x)) : WrC Tryz.prog G 110 [.agg (dEx e)] ((wordsN o).map wTok ++ partE x (leastM e)) := by
 intro B r ts H hB hlen hw
 rw [List.length_append, List.length_map] at hlen
 have hl0 := lx0 hl
 have hfl := flat_len dEx_len e.l
 have hll : e.l.length = 1 := by rw [hl]; rfl
 have hwo := wordsL_get ho2
 have hwl : (wordsL.map dW).length = 22 := rfl
 refine dcalls_intro Tryz.func110 Tryz.call110 rfl (by kernel_rfl) ?_
 simp (disch := omega) only [go_sem, DVal.cells]
 intro r3 hr3; dsimp only at hr3
 obtain ⟨K, hK⟩ : ∃ K', K' = upd H r3 (some (.cells (dEx e) 27)) := ⟨_, rfl⟩
 rw [← hK]
 have gr3 : K r3 = some (.cells (dEx e) 27) := by rw [hK]; exact upd_same _ _ _
 have hwK : WAt (upd B r3 (some (.cells (dEx e) 27))) r ts K := by rw [hK]; exact hw.frame hr3 _
 have n3 : r ≠ r3 := hw.ne hr3
 have hB3 : B r3 = none := (hw.lo hr3).1
 have hBK : upd B r3 (some (.cells (dEx e) 27)) r = none := by rw [upd_ne _ _ _ _ n3]; exact hB
 simp (disch := omega) only [go_sem, gr3]
 refine (level_spec G K e).mono ?_
 rintro _ K1 ⟨rfl, rfl⟩
 by_cases c : levelE e = 2
 ·have hM : leastM e = 3 := by rw [leastM, if_pos c]
  rw [hM] at hlen ⊢
  simp (disch := omega) only [go_sem, c]
  refine dwp_draws (by kernel_rfl) (.take 0 (.take 2 (.take 3 (.go 1 [3] (.take 4 (.take 5 (.go 6 [] .done))))))) (by kernel_rfl) ?_
  simp (disch := omega) only [go_sem, gr3]
  refine (words_spec G K1).mono ?_
  rintro _ K2 ⟨rfl, rfl⟩
  simp (disch := omega) only [go_sem, gr3, ho, dWords, hwo, hwl, Int.toNat_natCast]
  refine (put_spec hG (wordsN o) _ r _ _ hBK (by rw [List.length_map]; omega) hwK).mono ?_
  rintro _ H1 ⟨rfl, h1⟩
  have g3 := h1.keep (upd_same _ _ _) n3.symm
  simp (disch := omega) only [go_sem, g3, hll, hl0, hfl]
  refine (wpart_spec hG x _ hx _ r _ _ hBK (by rw [List.length_append, List.length_map]; omega) h1).mono ?_
  rintro _ H2 ⟨rfl, h2⟩
  simp (disch := omega) only [go_sem]
  refine DFin.refl ⟨rfl, ?_⟩
  have := h2.drop hB3
  rw [List.append_assoc] at this
  exact this
 ·have hM : leastM e = 5 := by rw [leastM, if_neg c]
  rw [hM] at hlen ⊢
  simp (disch := omega) only [go_sem, c]
  refine dwp_draws (by kernel_rfl) (.take 0 (.take 2 (.take 3 (.go 1 [3] (.take 4 (.take 5 (.go 6 [] .done))))))) (by kernel_rfl) ?_
  simp (disch := omega) only [go_sem, gr3]
  refine (words_spec G K1).mono ?_
  rintro _ K2 ⟨rfl, rfl⟩
  simp (disch := omega) only [go_sem, gr3, ho, dWords, hwo, hwl, Int.toNat_natCast]
  refine (put_spec hG (wordsN o) _ r _ _ hBK (by rw [List.length_map]; omega) hwK).mono ?_
  rintro _ H1 ⟨rfl, h1⟩
  have g3 := h1.keep (upd_same _ _ _) n3.symm
  simp (disch := omega) only [go_sem, g3, hll, hl0, hfl]
  refine (wpart_spec hG x _ hx _ r _ _ hBK (by rw [List.length_append, List.length_map]; omega) h1).mono ?_
  rintro _ H2 ⟨rfl, h2⟩
  simp (disch := omega) only [go_sem]
  refine DFin.refl ⟨rfl, ?_⟩
  have := h2.drop hB3
  rw [List.append_assoc] at this
  exact this
set_option maxHeartbeats 4000000 in
theorem wdyad_spec (hG : GX G) (e x y : Ex) (o : Nat) (hl : e.l = [x, y]) (ho : e.oper = o) (ho2 : o < 22) (hx : WrC Tryz.prog G 53 [.agg (dEx x)] (toksE x)) (hy : WrC Tryz.prog G 53 [.agg (dEx y)] (toksE y)) :
  WrC Tryz.prog G 111 [.agg (dEx e)] (partE x (leastL e) ++ ((wordsN o).map wTok ++ partE y (leastR e))) := by
 intro B r ts H hB hlen hw
 rw [List.length_append, List.length_append, List.length_map] at hlen
 have hl0 := lx0 hl
 have hl1 := lx1 hl
 have hfl := flat_len dEx_len e.l
 have hll : e.l.length = 2 := by rw [hl]; rfl
 have hwo := wordsL_get ho2
 have hwl : (wordsL.map dW).length = 22 := rfl
 have hlv := level_ge e
 have g0 : e.l.getD 0 ex0 = x := by rw [hl]; rfl
 have hx0 : (e.l.flatMap dEx)[0]? = some (.int .u8 x.kind) := by rw [hl, List.flatMap_cons, dEx_eq]; rfl
 have hx1 : (e.l.flatMap dEx)[1]? = some (.int .u8 x.oper) := by rw [hl, List.flatMap_cons, dEx_eq]; rfl
 refine dcalls_intro Tryz.func111 Tryz.call111 rfl (by kernel_rfl) ?_
 simp (disch := omega) only [go_sem, DVal.cells]
 intro r3 hr3; dsimp only at hr3
 obtain ⟨K, hK⟩ : ∃ K', K' = upd H r3 (some (.cells (dEx e) 27)) := ⟨_, rfl⟩
 rw [← hK]
 have gr3 : K r3 = some (.cells (dEx e) 27) := by rw [hK]; exact upd_same _ _ _
 have hwK : WAt (upd B r3 (some (.cells (dEx e) 27))) r ts K := by rw [hK]; exact hw.frame hr3 _
 have n3 : r ≠ r3 := hw.ne hr3
 have hB3 : B r3 = none := (hw.lo hr3).1
 have hBK : upd B r3 (some (.cells (dEx e) 27)) r = none := by rw [upd_ne _ _ _ _ n3]; exact hB
 simp (disch := omega) only [go_sem, gr3]
 refine (level_spec G K e).mono ?_
 rintro _ K1 ⟨rfl, rfl⟩
 have hwl1 : IntKind.i64.wrap (levelE e + 1) = levelE e + 1 := by rw [IntKind.wrap_i64]; omega
 by_cases c1 : levelE e = 1
 ·have hL : leastL e = 2 := by rw [leastL, if_pos c1]
  have hR : leastR e = 2 := by rw [leastR, if_pos c1]
  rw [hL, hR] at hlen ⊢
  simp (disch := omega) only [go_sem, c1, hwl1]
  simp (disch := omega) only [go_sem, gr3, hll, hl0, hfl]
  refine (wpart_spec hG x _ hx _ r _ _ hBK (by omega) hwK).mono ?_
  rintro _ H1 ⟨rfl, h1⟩
  have g3 := h1.keep (upd_same _ _ _) n3.symm
  simp (disch := omega) only [go_sem]
  refine dwp_draws (by kernel_rfl) (.take 0 (.take 2 (.take 3 (.go 1 [3] (.take 4 (.take 5 (.go 6 [] .done))))))) (by kernel_rfl) ?_
  simp (disch := omega) only [go_sem, g3]
  refine (words_spec G H1).mono ?_
  rintro _ K2 ⟨rfl, rfl⟩
  simp (disch := omega) only [go_sem, g3, ho, dWords, hwo, hwl, Int.toNat_natCast]
  refine (put_spec hG (wordsN o) _ r _ _ hBK (by rw [List.length_append, List.length_map]; omega) h1).mono ?_
  rintro _ H3 ⟨rfl, h3⟩
  have g3' := h3.keep (upd_same _ _ _) n3.symm
  simp (disch := omega) only [go_sem, g3', hll, hl1, hfl]
  refine (wpart_spec hG y _ hy _ r _ _ hBK (by rw [List.length_append, List.length_append, List.length_map]; omega) h3).mono ?_
  rintro _ H4 ⟨rfl, h4⟩
  simp (disch := omega) only [go_sem]
  refine DFin.refl ⟨rfl, ?_⟩
  have := h4.drop hB3
  rw [List.append_assoc, List.append_assoc] at this
  exact this
 ·have hR : leastR e = levelE e + 1 := by rw [leastR, if_neg c1]
  by_cases c0 : levelE e = 0
  ·have hR : leastR e = 1 := by rw [leastR, if_neg c1, c0]; rfl
   by_cases ck : x.kind = 12
   ·by_cases co : x.oper = (o : Int)
    ·have hL : leastL e = 0 := by rw [leastL, if_neg c1, g0, ho, if_neg (by rintro ⟨_, a | a⟩; exact a ck; exact a co), c0]
     rw [hL, hR] at hlen ⊢
     have c01 : ¬ (0 : Int) = 1 := by decide
     simp (disch := omega) only [go_sem, c0, hwl1, c01]
     refine dwp_draws (by kernel_rfl) (.take 0 (.take 1 (.take 2 (.take 3 (.take 4 (.take 5 (.take 6 (.take 7 (.take 8 (.take 9 (.take 10 (.take 11 (.take 12 (.take 13 (.take 14 (.take 15 (.take 16 (.take 17 (.take 18 (.take 19 (.take 20 .done))))))))))))))))))))) (by kernel_rfl) ?_
     simp (disch := omega) only [go_sem, gr3, hll, hfl, hx0, hx1, ck, co, ho]
     simp (disch := omega) only [go_sem, gr3, hll, hl0, hfl]
     refine (wpart_spec hG x _ hx _ r _ _ hBK (by omega) hwK).mono ?_
     rintro _ H1 ⟨rfl, h1⟩
     have g3 := h1.keep (upd_same _ _ _) n3.symm
     simp (disch := omega) only [go_sem]
     refine dwp_draws (by kernel_rfl) (.take 0 (.take 2 (.take 3 (.go 1 [3] (.take 4 (.take 5 (.go 6 [] .done))))))) (by kernel_rfl) ?_
     simp (disch := omega) only [go_sem, g3]
     refine (words_spec G H1).mono ?_
     rintro _ K2 ⟨rfl, rfl⟩
     simp (disch := omega) only [go_sem, g3, ho, dWords, hwo, hwl, Int.toNat_natCast]
     refine (put_spec hG (wordsN o) _ r _ _ hBK (by rw [List.length_append, List.length_map]; omega) h1).mono ?_
     rintro _ H3 ⟨rfl, h3⟩
     have g3' := h3.keep (upd_same _ _ _) n3.symm
     simp (disch := omega) only [go_sem, g3', hll, hl1, hfl]
     refine (wpart_spec hG y _ hy _ r _ _ hBK (by rw [List.length_append, List.length_append, List.length_map]; omega) h3).mono ?_
     rintro _ H4 ⟨rfl, h4⟩
     simp (disch := omega) only [go_sem]
     refine DFin.refl ⟨rfl, ?_⟩
     have := h4.drop hB3
     rw [List.append_assoc, List.append_assoc] at this
     exact this
    ·have hL : leastL e = 1 := by rw [leastL, if_neg c1, g0, ho, if_pos ⟨c0, .inr co⟩]
     rw [hL, hR] at hlen ⊢
     simp (disch := omega) only [go_sem, c0, hwl1]
     refine dwp_draws (by kernel_rfl) (.take 0 (.take 1 (.take 2 (.take 3 (.take 4 (.take 5 (.take 6 (.take 7 (.take 8 (.take 9 (.take 10 (.take 11 (.take 12 (.take 13 (.take 14 (.take 15 (.take 16 (.take 17 (.take 18 (.take 19 (.take 20 .done))))))))))))))))))))) (by kernel_rfl) ?_
     simp (disch := omega) only [go_sem, gr3, hll, hfl, hx0, hx1, ck, co, ho]
     simp (disch := omega) only [go_sem, gr3, hll, hl0, hfl]
     refine (wpart_spec hG x _ hx _ r _ _ hBK (by omega) hwK).mono ?_
     rintro _ H1 ⟨rfl, h1⟩
     have g3 := h1.keep (upd_same _ _ _) n3.symm
     simp (disch := omega) only [go_sem]
     refine dwp_draws (by kernel_rfl) (.take 0 (.take 2 (.take 3 (.go 1 [3] (.take 4 (.take 5 (.go 6 [] .done))))))) (by kernel_rfl) ?_
     simp (disch := omega) only [go_sem, g3]
     refine (words_spec G H1).mono ?_
     rintro _ K2 ⟨rfl, rfl⟩
     simp (disch := omega) only [go_sem, g3, ho, dWords, hwo, hwl, Int.toNat_natCast]
     refine (put_spec hG (wordsN o) _ r _ _ hBK (by rw [List.length_append, List.length_map]; omega) h1).mono ?_
     rintro _ H3 ⟨rfl, h3⟩
     have g3' := h3.keep (upd_same _ _ _) n3.symm
     simp (disch := omega) only [go_sem, g3', hll, hl1, hfl]
     refine (wpart_spec hG y _ hy _ r _ _ hBK (by rw [List.length_append, List.length_append, List.length_map]; omega) h3).mono ?_
     rintro _ H4 ⟨rfl, h4⟩
     simp (disch := omega) only [go_sem]
     refine DFin.refl ⟨rfl, ?_⟩
     have := h4.drop hB3
     rw [List.append_assoc, List.append_assoc] at this
     exact this
   ·have hL : leastL e = 1 := by rw [leastL, if_neg c1, g0, ho, if_pos ⟨c0, .inl ck⟩]
    rw [hL, hR] at hlen ⊢
    simp (disch := omega) only [go_sem, c0, hwl1]
    refine dwp_draws (by kernel_rfl) (.take 0 (.take 1 (.take 2 (.take 3 (.take 4 (.take 5 (.take 6 (.take 7 (.take 8 (.take 9 (.take 10 (.take 11 (.take 12 (.take 13 (.take 14 (.take 15 (.take 16 (.take 17 (.take 18 (.take 19 (.take 20 .done))))))))))))))))))))) (by kernel_rfl) ?_
    simp (disch := omega) only [go_sem, gr3, hll, hfl, hx0, hx1, ck, ho]
    simp (disch := omega) only [go_sem, gr3, hll, hl0, hfl]
    refine (wpart_spec hG x _ hx _ r _ _ hBK (by omega) hwK).mono ?_
    rintro _ H1 ⟨rfl, h1⟩
    have g3 := h1.keep (upd_same _ _ _) n3.symm
    simp (disch := omega) only [go_sem]
    refine dwp_draws (by kernel_rfl) (.take 0 (.take 2 (.take 3 (.go 1 [3] (.take 4 (.take 5 (.go 6 [] .done))))))) (by kernel_rfl) ?_
    simp (disch := omega) only [go_sem, g3]
    refine (words_spec G H1).mono ?_
    rintro _ K2 ⟨rfl, rfl⟩
    simp (disch := omega) only [go_sem, g3, ho, dWords, hwo, hwl, Int.toNat_natCast]
    refine (put_spec hG (wordsN o) _ r _ _ hBK (by rw [List.length_append, List.length_map]; omega) h1).mono ?_
    rintro _ H3 ⟨rfl, h3⟩
    have g3' := h3.keep (upd_same _ _ _) n3.symm
    simp (disch := omega) only [go_sem, g3', hll, hl1, hfl]
    refine (wpart_spec hG y _ hy _ r _ _ hBK (by rw [List.length_append, List.length_append, List.length_map]; omega) h3).mono ?_
    rintro _ H4 ⟨rfl, h4⟩
    simp (disch := omega) only [go_sem]
    refine DFin.refl ⟨rfl, ?_⟩
    have := h4.drop hB3
    rw [List.append_assoc, List.append_assoc] at this
    exact this
  ·have hL : leastL e = levelE e := by rw [leastL, if_neg c1, if_neg (by rintro ⟨a, _⟩; exact c0 a)]
   rw [hL, hR] at hlen ⊢
   simp (disch := omega) only [go_sem, c0, c1, hwl1]
   refine dwp_draws (by kernel_rfl) (.take 0 (.take 1 (.take 2 (.take 3 (.take 4 (.take 5 (.take 6 (.take 7 (.take 8 (.take 9 (.take 10 (.take 11 (.take 12 (.take 13 (.take 14 (.take 15 (.take 16 (.take 17 (.take 18 (.take 19 (.take 20 .done))))))))))))))))))))) (by kernel_rfl) ?_
   simp (disch := omega) only [go_sem, gr3, hll, hfl, hx0, hx1, ho, c0]
   simp (disch := omega) only [go_sem, gr3, hll, hl0, hfl]
   refine (wpart_spec hG x _ hx _ r _ _ hBK (by omega) hwK).mono ?_
   rintro _ H1 ⟨rfl, h1⟩
   have g3 := h1.keep (upd_same _ _ _) n3.symm
   simp (disch := omega) only [go_sem]
   refine dwp_draws (by kernel_rfl) (.take 0 (.take 2 (.take 3 (.go 1 [3] (.take 4 (.take 5 (.go 6 [] .done))))))) (by kernel_rfl) ?_
   simp (disch := omega) only [go_sem, g3]
   refine (words_spec G H1).mono ?_
   rintro _ K2 ⟨rfl, rfl⟩
   simp (disch := omega) only [go_sem, g3, ho, dWords, hwo, hwl, Int.toNat_natCast]
   refine (put_spec hG (wordsN o) _ r _ _ hBK (by rw [List.length_append, List.length_map]; omega) h1).mono ?_
   rintro _ H3 ⟨rfl, h3⟩
   have g3' := h3.keep (upd_same _ _ _) n3.symm
   simp (disch := omega) only [go_sem, g3', hll, hl1, hfl]
   refine (wpart_spec hG y _ hy _ r _ _ hBK (by rw [List.length_append, List.length_append, List.length_map]; omega) h3).mono ?_
   rintro _ H4 ⟨rfl, h4⟩
   simp (disch := omega) only [go_sem]
   refine DFin.refl ⟨rfl, ?_⟩
   have := h4.drop hB3
   rw [List.append_assoc, List.append_assoc] at this
   exact this
set_option maxHeartbeats 4000000 in
theorem winside_spec (hG : GX G) (e x : Ex) (ws : List (List UInt8)) (hl : (∃ y z, e.l = [x, y, z]) ∨ ∃ y, e.l = [x, y]) (hp : ∀ y ∈ e.l, WrC Tryz.prog G 53 [.agg (dEx y)] (toksE y)) :
  WrC Tryz.prog G 112 [.agg (dEx e), dW ws] (partE x 2 ++ (ws.map wTok ++ tailE e)) := by
 intro B r ts H hB hlen hw
 rw [List.length_append, List.length_append, List.length_map] at hlen
 have hx : WrC Tryz.prog G 53 [.agg (dEx x)] (toksE x) := hp x (by rcases hl with ⟨y, z, hl⟩ | ⟨y, hl⟩ <;> (rw [hl]; simp))
 have hl0 : (e.l.flatMap dEx).take 9 = dEx x := by rcases hl with ⟨y, z, hl⟩ | ⟨y, hl⟩ <;> exact lx0 hl
 have hfl := flat_len dEx_len e.l
 have hlp : 0 < e.l.length := by rcases hl with ⟨y, z, hl⟩ | ⟨y, hl⟩ <;> (rw [hl]; simp)
 refine dcalls_intro Tryz.func112 Tryz.call112 rfl (by kernel_rfl) ?_
 simp (disch := omega) only [go_sem, DVal.cells]
 intro r4 hr4; dsimp only at hr4
 obtain ⟨K, hK⟩ : ∃ K', K' = upd H r4 (some (.cells (dEx e) 27)) := ⟨_, rfl⟩
 rw [← hK]
 have gr4 : K r4 = some (.cells (dEx e) 27) := by rw [hK]; exact upd_same _ _ _
 have hwK : WAt (upd B r4 (some (.cells (dEx e) 27))) r ts K := by rw [hK]; exact hw.frame hr4 _
 have n4 : r ≠ r4 := hw.ne hr4
 have hB4 : B r4 = none := (hw.lo hr4).1
 have hBK : upd B r4 (some (.cells (dEx e) 27)) r = none := by rw [upd_ne _ _ _ _ n4]; exact hB
 rcases hl with ⟨y, z, hl⟩ | ⟨y, hl⟩
 ·have hll : e.l.length = 3 := by rw [hl]; rfl
  have hl1 := lx1 hl
  have hl2 := lx2 hl
  have ht : tailE e = partE y 2 ++ wTok wDots :: partE z 2 := by unfold tailE pE tE; rw [hl]; rfl
  rw [ht] at hlen ⊢
  simp (disch := omega) only [go_sem, gr4, hl0, hfl, hlp]
  refine (wpart_spec hG x _ hx _ r _ _ hBK (by omega) hwK).mono ?_
  rintro _ H1 ⟨rfl, h1⟩
  simp (disch := omega) only [go_sem]
  refine (put_spec hG ws _ r _ _ hBK (by rw [List.length_append, List.length_map]; omega) h1).mono ?_
  rintro _ H2 ⟨rfl, h2⟩
  have g2 := h2.keep (upd_same _ _ _) n4.symm
  simp (disch := omega) only [go_sem, g2, hll]
  refine dwp_draws (by kernel_rfl) (.take 0 (.take 1 (.take 2 (.take 3 (.take 4 (.take 5 (.take 6 (.take 7 (.take 8 (.go 9 [] .done)))))))))) (by kernel_rfl) ?_
  simp (disch := omega) only [go_sem, g2, hll, hl1, hl2, hfl]
  refine (wbounds_spec hG y z (hp y (by rw [hl]; simp)) (hp z (by rw [hl]; simp)) _ r _ _ hBK (by rw [List.length_append, List.length_append, List.length_map]; omega) h2).mono ?_
  rintro _ H4 ⟨rfl, h4⟩
  simp (disch := omega) only [go_sem]
  refine DFin.refl ⟨rfl, ?_⟩
  have := h4.drop hB4
  rw [List.append_assoc, List.append_assoc] at this
  exact this
 ·have hll : e.l.length = 2 := by rw [hl]; rfl
  have hl1 := lx1 hl
  have ht : tailE e = toksE y := by unfold tailE pE tE; rw [hl]; rfl
  rw [ht] at hlen ⊢
  simp (disch := omega) only [go_sem, gr4, hl0, hfl, hlp]
  refine (wpart_spec hG x _ hx _ r _ _ hBK (by omega) hwK).mono ?_
  rintro _ H1 ⟨rfl, h1⟩
  simp (disch := omega) only [go_sem]
  refine (put_spec hG ws _ r _ _ hBK (by rw [List.length_append, List.length_map]; omega) h1).mono ?_
  rintro _ H2 ⟨rfl, h2⟩
  have g2 := h2.keep (upd_same _ _ _) n4.symm
  simp (disch := omega) only [go_sem, g2, hll, hl1, hfl]
  refine (hp y (by rw [hl]; simp) _ r _ _ hBK (by rw [List.length_append, List.length_append, List.length_map]; omega) h2).mono ?_
  rintro _ H4 ⟨rfl, h4⟩
  simp (disch := omega) only [go_sem]
  refine DFin.refl ⟨rfl, ?_⟩
  have := h4.drop hB4
  rw [List.append_assoc, List.append_assoc] at this
  exact this
set_option maxHeartbeats 4000000 in
theorem wchoice_spec (hG : GX G) (c : Ch) {n : Nat} (hc : rightC n c = true) (hp : ∀ y ∈ c.l, WrC Tryz.prog G 53 [.agg (dEx y)] (toksE y)) : WrC Tryz.prog G 92 [.agg (dCh c)] (toksC c) := by
 intro B r ts H hB hlen hw
 have hfl := flat_len dEx_len c.l
 unfold rightC at hc
 refine dcalls_intro Tryz.func92 Tryz.call92 rfl (by kernel_rfl) ?_
 simp (disch := omega) only [go_sem, DVal.cells]
 intro r3 hr3; dsimp only at hr3
 obtain ⟨K, hK⟩ : ∃ K', K' = upd H r3 (some (.cells (dCh c) 71)) := ⟨_, rfl⟩
 rw [← hK]
 have gr3 : K r3 = some (.cells (dCh c) 71) := by rw [hK]; exact upd_same _ _ _
 have hwK : WAt (upd B r3 (some (.cells (dCh c) 71))) r ts K := by rw [hK]; exact hw.frame hr3 _
 have n3 : r ≠ r3 := hw.ne hr3
 have hB3 : B r3 = none := (hw.lo hr3).1
 have hBK : upd B r3 (some (.cells (dCh c) 71)) r = none := by rw [upd_ne _ _ _ _ n3]; exact hB
 by_cases c1 : c.kind = 1
 ·rw [if_pos c1, decide_eq_true_eq] at hc
  obtain ⟨x, hx⟩ := len1 hc
  have hl0 := lx0 hx
  have ht : toksC c = toksE x := by rw [toksC_eq, if_pos c1, hx]; rfl
  rw [ht] at hlen ⊢
  simp (disch := omega) only [go_sem, gr3, c1, hc, hl0, hfl]
  refine (hp x (by rw [hx]; simp) _ r _ _ hBK hlen hwK).mono ?_
  rintro _ H4 ⟨rfl, h4⟩
  simp (disch := omega) only [go_sem]
  exact DFin.refl ⟨rfl, h4.drop hB3⟩
 ·rw [if_neg c1] at hc
  by_cases c2 : c.kind = 2
  ·rw [if_pos c2, decide_eq_true_eq] at hc
   obtain ⟨x, y, hx⟩ := len2 hc
   have hl0 := lx0 hx
   have hl1 := lx1 hx
   have ht : toksC c = partE x 2 ++ wTok wDots :: partE y 2 := by rw [toksC_eq, if_neg c1, if_pos c2, hx]; rfl
   rw [ht] at hlen ⊢
   simp (disch := omega) only [go_sem, gr3, c2]
   refine dwp_draws (by kernel_rfl) (.take 0 (.take 1 (.take 2 (.take 3 (.take 4 (.take 5 (.take 6 (.take 7 (.take 8 (.go 9 [] .done)))))))))) (by kernel_rfl) ?_
   simp (disch := omega) only [go_sem, gr3, hc, hl0, hl1, hfl]
   refine (wbounds_spec hG x y (hp x (by rw [hx]; simp)) (hp y (by rw [hx]; simp)) _ r _ _ hBK hlen hwK).mono ?_
   rintro _ H4 ⟨rfl, h4⟩
   simp (disch := omega) only [go_sem]
   exact DFin.refl ⟨rfl, h4.drop hB3⟩
  ·have ht : toksC c = [wTok wOthers] := by rw [toksC_eq, if_neg c1, if_neg c2]
   rw [ht] at hlen ⊢
   simp (disch := omega) only [go_sem, gr3, c1, c2]
   intro q1 hq1; dsimp only at hq1
   simp (disch := omega) only [go_sem]
   refine (put1 hG wOthers hq1 hBK hlen hwK).mono ?_
   rintro _ H1 ⟨rfl, h1⟩
   simp (disch := omega) only [go_sem]
   exact DFin.refl ⟨rfl, h1.drop hB3⟩
end
end Go.Dl

-- Chapter 3: the package's writer: lists, associations.
namespace Go.Dl
open Go Go.Proofs
set_option maxRecDepth 100000
theorem take_snoc {α : Type} {l : List α} {j : Nat} (h : j < l.length) : l.take (j + 1) = l.take j ++ [l[j]] := by rw [List.take_add_one, List.getElem?_eq_getElem h]; rfl
theorem sepT_take {α : Type} (g : α → List Tok) (s : List UInt8) (l : List α) (j : Nat) (h : j < l.length) : sepT s ((l.take (j + 1)).map g) = sepT s ((l.take j).map g) ++ ((if j = 0 then [] else [wTok s]) ++ g l[j]) := by
 rw [take_snoc h, List.map_append, List.map_singleton]
 by_cases c : j = 0
 ·subst c; simp [sepT]
 ·rw [sepT_snoc s _ _ (by cases l with
   | nil => simp at h
   | cons x l => cases j with
    | zero => exact absurd rfl c
    | succ j => simp), if_neg c]; rfl
theorem sepT_mono {α : Type} (g : α → List Tok) (s : List UInt8) (l : List α) : ∀ (n j : Nat), j + n ≤ l.length → (sepT s ((l.take j).map g)).length ≤ (sepT s ((l.take (j + n)).map g)).length
 | 0, j, _ => Nat.le_refl _
 | n + 1, j, h => by
  rw [← Nat.add_assoc, sepT_take g s l (j + n) (by omega), List.length_append]
  have := sepT_mono g s l n j (by omega)
  omega
theorem sepT_le {α : Type} (g : α → List Tok) (s : List UInt8) (l : List α) (j : Nat) (h : j ≤ l.length) : (sepT s ((l.take j).map g)).length ≤ (sepT s (l.map g)).length := by
 have := sepT_mono g s l (l.length - j) j (by omega)
 rw [Nat.add_sub_cancel' h, List.take_length] at this
 exact this
section
variable {G : Nat → DVal}
set_option maxHeartbeats 4000000 in
theorem wlistC_spec (hG : GX G) (l : List Ch) (s : List UInt8) (hll : l.length ≤ 1000000000) (hp : ∀ c ∈ l, WrC Tryz.prog G 92 [.agg (dCh c)] (toksC c)) (B : DHeap) (r : Nat) (ts : List Tok) (H : DHeap) (hB : B r = none) (hlen : ts.length + (sepT s (l.map toksC)).length ≤ 1000000000) (hw : WAt B r ts H) :
  DCalls Tryz.prog G 91 [.optr r 0, dCl l, .str s, .func (.func 92) [.optr r 0] []] H (WQ B r (ts ++ sepT s (l.map toksC))) := by
 refine dcalls_intro Tryz.func91 Tryz.call91 rfl (by kernel_rfl) ?_
 simp (disch := omega) only [go_sem, dCl]
 obtain ⟨I, hI⟩ : ∃ I : Nat → (Nat → DVal) → DHeap → Prop, ∀ j env heap, I j env heap ↔ (env 0 = .optr r 0 ∧ env 2 = .str s ∧ env 3 = .func (.func 92) [.optr r 0] [] ∧ env 10 = dCl l ∧ env 11 = dI l.length ∧ env 12 = dI j ∧ j ≤ l.length ∧ WAt B r (ts ++ sepT s ((l.take j).map toksC)) heap) := ⟨_, fun _ _ _ => Iff.rfl⟩
 refine DLoop.run I (fun j => l.length - j) 0 ((hI _ _ _).2 ?_) ?_
 ·simp (disch := omega) only [go_sem]
  (repeat' apply And.intro) <;> (try first | rfl | assumption | omega)
  simpa [sepT] using hw
 ·intro j env heap hi
  obtain ⟨e0, e2, e3, e10, e11, e12, hj, hwj⟩ := (hI _ _ _).1 hi
  by_cases hlt : j < l.length
  ·have hlt' : (j : Int) < (l.length : Int) := by omega
   have hw1 : IntKind.i64.wrap ((j : Int) + 1) = ((j + 1 : Nat) : Int) := by rw [IntKind.wrap_i64]; omega
   have hget := flat_el dCh_len l j hlt
   have hfl := flat_len dCh_len l
   have htk := sepT_take toksC s l j hlt
   have hle := sepT_le toksC s l (j + 1) hlt
   have hpc := hp l[j] (List.getElem_mem hlt)
   obtain ⟨c, hce⟩ : ∃ c, c = l[j] := ⟨_, rfl⟩
   rw [← hce] at hget htk hpc
   rw [htk, List.length_append, List.length_append] at hle
   simp (disch := omega) only [go_sem, e0, e2, e3, e10, e11, e12, hlt', dCl, hget, hfl, Int.toNat_natCast]
   intro r9 hr9; dsimp only at hr9
   simp (disch := omega) only [go_sem, e0, e2, e3, e10, e11, e12]
   obtain ⟨K, hK⟩ : ∃ K', K' = upd heap r9 (some (.cells (dCh c) 71)) := ⟨_, rfl⟩
   rw [← hK]
   have gr9 : K r9 = some (.cells (dCh c) 71) := by rw [hK]; exact upd_same _ _ _
   have hwK : WAt (upd B r9 (some (.cells (dCh c) 71))) r (ts ++ sepT s ((l.take j).map toksC)) K := by rw [hK]; exact hwj.frame hr9 _
   have n9 : r ≠ r9 := hwj.ne hr9
   have hB9 : B r9 = none := (hwj.lo hr9).1
   have hBK : upd B r9 (some (.cells (dCh c) 71)) r = none := by rw [upd_ne _ _ _ _ n9]; exact hB
   by_cases c0 : j = 0
   ·have c0' : ¬ (j : Int) > 0 := by omega
    have c0'' : ¬ (0 : Int) < (j : Int) := by omega
    rw [if_pos c0] at htk hle
    simp (disch := omega) only [go_sem, e0, e2, e3, e10, e11, e12, gr9, c0', c0'']
    refine (hpc _ r _ _ hBK (by rw [List.length_append]; simp only [List.length_nil] at hle; omega) hwK).mono ?_
    rintro _ H2 ⟨rfl, h2⟩
    simp (disch := omega) only [go_sem, e0, e2, e3, e10, e11, e12]
    refine ⟨j + 1, _, GhostS.refl _, (hI _ _ _).2 ?_, by omega⟩
    simp (disch := omega) only [go_sem, e0, e2, e3, e10, e11, e12, hw1]
    (repeat' apply And.intro) <;> (try first | rfl | assumption | omega)
    have := h2.drop hB9
    rw [htk, List.nil_append, ← List.append_assoc]
    exact this
   ·have c0'' : (0 : Int) < (j : Int) := by omega
    rw [if_neg c0] at htk hle
    simp only [List.length_singleton] at hle
    simp (disch := omega) only [go_sem, e0, e2, e3, e10, e11, e12, gr9, c0'']
    intro q1 hq1; dsimp only at hq1
    simp (disch := omega) only [go_sem, e0, e2, e3, e10, e11, e12]
    refine (put1 hG s hq1 hBK (by rw [List.length_append]; omega) hwK).mono ?_
    rintro _ H1 ⟨rfl, h1⟩
    have g1 := h1.keep (upd_same _ _ _) n9.symm
    simp (disch := omega) only [go_sem, e0, e2, e3, e10, e11, e12, g1]
    refine (hpc _ r _ _ hBK (by rw [List.length_append, List.length_append, List.length_singleton]; omega) h1).mono ?_
    rintro _ H2 ⟨rfl, h2⟩
    simp (disch := omega) only [go_sem, e0, e2, e3, e10, e11, e12]
    refine ⟨j + 1, _, GhostS.refl _, (hI _ _ _).2 ?_, by omega⟩
    simp (disch := omega) only [go_sem, e0, e2, e3, e10, e11, e12, hw1]
    (repeat' apply And.intro) <;> (try first | rfl | assumption | omega)
    have := h2.drop hB9
    rw [htk, ← List.append_assoc, ← List.append_assoc]
    exact this
  ·have : j = l.length := by omega
   subst this
   have hlt' : ¬ (l.length : Int) < (l.length : Int) := by omega
   rw [List.take_length] at hwj
   simp (disch := omega) only [go_sem, e0, e2, e3, e10, e11, e12, hlt']
   exact DFin.refl ⟨rfl, hwj⟩
set_option maxHeartbeats 4000000 in
theorem wlistA_spec (hG : GX G) (l : List As) (s : List UInt8) (hll : l.length ≤ 1000000000) (hp : ∀ c ∈ l, WrC Tryz.prog G 89 [.agg (dAs c)] (toksA c)) (B : DHeap) (r : Nat) (ts : List Tok) (H : DHeap) (hB : B r = none) (hlen : ts.length + (sepT s (l.map toksA)).length ≤ 1000000000) (hw : WAt B r ts H) :
  DCalls Tryz.prog G 88 [.optr r 0, dAl l, .str s, .func (.func 89) [.optr r 0] []] H (WQ B r (ts ++ sepT s (l.map toksA))) := by
 refine dcalls_intro Tryz.func88 Tryz.call88 rfl (by kernel_rfl) ?_
 simp (disch := omega) only [go_sem, dAl]
 obtain ⟨I, hI⟩ : ∃ I : Nat → (Nat → DVal) → DHeap → Prop, ∀ j env heap, I j env heap ↔ (env 0 = .optr r 0 ∧ env 2 = .str s ∧ env 3 = .func (.func 89) [.optr r 0] [] ∧ env 10 = dAl l ∧ env 11 = dI l.length ∧ env 12 = dI j ∧ j ≤ l.length ∧ WAt B r (ts ++ sepT s ((l.take j).map toksA)) heap) := ⟨_, fun _ _ _ => Iff.rfl⟩
 refine DLoop.run I (fun j => l.length - j) 0 ((hI _ _ _).2 ?_) ?_
 ·simp (disch := omega) only [go_sem]
  (repeat' apply And.intro) <;> (try first | rfl | assumption | omega)
  simpa [sepT] using hw
 ·intro j env heap hi
  obtain ⟨e0, e2, e3, e10, e11, e12, hj, hwj⟩ := (hI _ _ _).1 hi
  by_cases hlt : j < l.length
  ·have hlt' : (j : Int) < (l.length : Int) := by omega
   have hw1 : IntKind.i64.wrap ((j : Int) + 1) = ((j + 1 : Nat) : Int) := by rw [IntKind.wrap_i64]; omega
   have hget := flat_el dAs_len l j hlt
   have hfl := flat_len dAs_len l
   have htk := sepT_take toksA s l j hlt
   have hle := sepT_le toksA s l (j + 1) hlt
   have hpc := hp l[j] (List.getElem_mem hlt)
   obtain ⟨c, hce⟩ : ∃ c, c = l[j] := ⟨_, rfl⟩
   rw [← hce] at hget htk hpc
   rw [htk, List.length_append, List.length_append] at hle
   simp (disch := omega) only [go_sem, e0, e2, e3, e10, e11, e12, hlt', dAl, hget, hfl, Int.toNat_natCast]
   intro r9 hr9; dsimp only at hr9
   simp (disch := omega) only [go_sem, e0, e2, e3, e10, e11, e12]
   obtain ⟨K, hK⟩ : ∃ K', K' = upd heap r9 (some (.cells (dAs c) 47)) := ⟨_, rfl⟩
   rw [← hK]
   have gr9 : K r9 = some (.cells (dAs c) 47) := by rw [hK]; exact upd_same _ _ _
   have hwK : WAt (upd B r9 (some (.cells (dAs c) 47))) r (ts ++ sepT s ((l.take j).map toksA)) K := by rw [hK]; exact hwj.frame hr9 _
   have n9 : r ≠ r9 := hwj.ne hr9
   have hB9 : B r9 = none := (hwj.lo hr9).1
   have hBK : upd B r9 (some (.cells (dAs c) 47)) r = none := by rw [upd_ne _ _ _ _ n9]; exact hB
   by_cases c0 : j = 0
   ·have c0' : ¬ (j : Int) > 0 := by omega
    have c0'' : ¬ (0 : Int) < (j : Int) := by omega
    rw [if_pos c0] at htk hle
    simp (disch := omega) only [go_sem, e0, e2, e3, e10, e11, e12, gr9, c0', c0'']
    refine (hpc _ r _ _ hBK (by rw [List.length_append]; simp only [List.length_nil] at hle; omega) hwK).mono ?_
    rintro _ H2 ⟨rfl, h2⟩
    simp (disch := omega) only [go_sem, e0, e2, e3, e10, e11, e12]
    refine ⟨j + 1, _, GhostS.refl _, (hI _ _ _).2 ?_, by omega⟩
    simp (disch := omega) only [go_sem, e0, e2, e3, e10, e11, e12, hw1]
    (repeat' apply And.intro) <;> (try first | rfl | assumption | omega)
    have := h2.drop hB9
    rw [htk, List.nil_append, ← List.append_assoc]
    exact this
   ·have c0'' : (0 : Int) < (j : Int) := by omega
    rw [if_neg c0] at htk hle
    simp only [List.length_singleton] at hle
    simp (disch := omega) only [go_sem, e0, e2, e3, e10, e11, e12, gr9, c0'']
    intro q1 hq1; dsimp only at hq1
    simp (disch := omega) only [go_sem, e0, e2, e3, e10, e11, e12]
    refine (put1 hG s hq1 hBK (by rw [List.length_append]; omega) hwK).mono ?_
    rintro _ H1 ⟨rfl, h1⟩
    have g1 := h1.keep (upd_same _ _ _) n9.symm
    simp (disch := omega) only [go_sem, e0, e2, e3, e10, e11, e12, g1]
    refine (hpc _ r _ _ hBK (by rw [List.length_append, List.length_append, List.length_singleton]; omega) h1).mono ?_
    rintro _ H2 ⟨rfl, h2⟩
    simp (disch := omega) only [go_sem, e0, e2, e3, e10, e11, e12]
    refine ⟨j + 1, _, GhostS.refl _, (hI _ _ _).2 ?_, by omega⟩
    simp (disch := omega) only [go_sem, e0, e2, e3, e10, e11, e12, hw1]
    (repeat' apply And.intro) <;> (try first | rfl | assumption | omega)
    have := h2.drop hB9
    rw [htk, ← List.append_assoc, ← List.append_assoc]
    exact this
  ·have : j = l.length := by omega
   subst this
   have hlt' : ¬ (l.length : Int) < (l.length : Int) := by omega
   rw [List.take_length] at hwj
   simp (disch := omega) only [go_sem, e0, e2, e3, e10, e11, e12, hlt']
   exact DFin.refl ⟨rfl, hwj⟩
end
end Go.Dl

-- Chapter 3: the package's writer: associations; all expressions.
namespace Go.Dl
open Go Go.Proofs
set_option maxRecDepth 100000
section
variable {G : Nat → DVal}
set_option maxHeartbeats 4000000 in
theorem wassoc_spec (hG : GX G) (a : As) (hc : a.c = [] ∨ (a.c.length ≤ 1000000000 ∧ ∃ n, ∀ c ∈ a.c, rightC n c = true)) (hp : ∀ y ∈ partsA a, WrC Tryz.prog G 53 [.agg (dEx y)] (toksE y)) : WrC Tryz.prog G 89 [.agg (dAs a)] (toksA a) := by
 intro B r ts H hB hlen hw
 have he := hp a.e (mem_partsA_e a)
 have hae : ((dAs a).drop 1).take 9 = dEx a.e := by rw [dAs_eq, List.drop_succ_cons, List.drop_zero, List.take_of_length_le (by rw [dEx_len]; omega)]
 refine dcalls_intro Tryz.func89 Tryz.call89 rfl (by kernel_rfl) ?_
 simp (disch := omega) only [go_sem, DVal.cells]
 intro r3 hr3; dsimp only at hr3
 obtain ⟨K, hK⟩ : ∃ K', K' = upd H r3 (some (.cells (dAs a) 47)) := ⟨_, rfl⟩
 rw [← hK]
 have gr3 : K r3 = some (.cells (dAs a) 47) := by rw [hK]; exact upd_same _ _ _
 have hwK : WAt (upd B r3 (some (.cells (dAs a) 47))) r ts K := by rw [hK]; exact hw.frame hr3 _
 have n3 : r ≠ r3 := hw.ne hr3
 have hB3 : B r3 = none := (hw.lo hr3).1
 have hBK : upd B r3 (some (.cells (dAs a) 47)) r = none := by rw [upd_ne _ _ _ _ n3]; exact hB
 by_cases c0 : a.c = []
 ·have ht : toksA a = toksE a.e := by rw [toksA_eq, c0]; rfl
  have hll : a.c.length = 0 := by rw [c0]; rfl
  have c0' : ¬ (0 : Int) < ((0 : Nat) : Int) := by omega
  rw [ht] at hlen ⊢
  simp (disch := omega) only [go_sem, gr3, hll, c0', hae]
  refine (he _ r _ _ hBK hlen hwK).mono ?_
  rintro _ H1 ⟨rfl, h1⟩
  simp (disch := omega) only [go_sem]
  exact DFin.refl ⟨rfl, h1.drop hB3⟩
 ·obtain ⟨hcl, n, hcr⟩ := hc.resolve_left c0
  have hlp : 0 < a.c.length := List.length_pos_iff.2 c0
  have hlp' : (0 : Int) < (a.c.length : Int) := by omega
  have ht : toksA a = sepT wBar (a.c.map toksC) ++ wTok wArrow :: toksE a.e := by
   rw [toksA_eq, if_neg]
   simpa using c0
  rw [ht] at hlen ⊢
  rw [List.length_append, List.length_cons] at hlen
  simp (disch := omega) only [go_sem, gr3, hlp']
  refine (wlistC_spec hG a.c wBar hcl (fun c hc => wchoice_spec hG c (hcr c hc) fun y hy => hp y (mem_partsA_c hc hy)) _ r _ _ hBK (by omega) hwK).mono ?_
  rintro _ H1 ⟨rfl, h1⟩
  simp (disch := omega) only [go_sem]
  intro q1 hq1; dsimp only at hq1
  simp (disch := omega) only [go_sem]
  refine (put1 hG wArrow hq1 hBK (by rw [List.length_append]; omega) h1).mono ?_
  rintro _ H2 ⟨rfl, h2⟩
  have g2 := h2.keep (upd_same _ _ _) n3.symm
  simp (disch := omega) only [go_sem, g2, hae]
  refine (he _ r _ _ hBK (by rw [List.length_append, List.length_append, List.length_singleton]; omega) h2).mono ?_
  rintro _ H3 ⟨rfl, h3⟩
  simp (disch := omega) only [go_sem]
  refine DFin.refl ⟨rfl, ?_⟩
  have := h3.drop hB3
  rw [List.append_assoc, List.append_assoc] at this
  exact this
theorem simple_right {a : As} (h : (a.c.isEmpty || simpleCs a.c) = true) : a.c = [] ∨ (a.c.length ≤ 1000000000 ∧ ∃ n, ∀ c ∈ a.c, rightC n c = true) := by
 cases hc : a.c with
 | nil => exact .inl rfl
 | cons c r =>
  rw [hc] at h
  cases r with
  | nil =>
   simp only [simpleCs, List.isEmpty_cons, Bool.false_or, Bool.and_eq_true, decide_eq_true_eq] at h
   refine .inr ⟨by simp, 1, fun d hd => ?_⟩
   rw [List.mem_singleton] at hd
   subst hd
   rw [rightC, if_pos h.1, decide_eq_true_eq]
   match hl : d.l with
   | [x] => rfl
   | [] => rw [hl] at h; cases h.2
   | _ :: _ :: _ => rw [hl] at h; cases h.2
  | cons d r => simp [simpleCs] at h
theorem right_right {a : As} (h : (a.c.isEmpty || rightCs a.c) = true) : a.c = [] ∨ (a.c.length ≤ 1000000000 ∧ ∃ n, ∀ c ∈ a.c, rightC n c = true) := by
 cases hc : a.c with
 | nil => exact .inl rfl
 | cons c r =>
  rw [hc] at h
  simp only [List.isEmpty_cons, Bool.false_or, rightCs, Bool.and_eq_true, decide_eq_true_eq, List.all_eq_true] at h
  exact .inr ⟨by omega, _, h.2⟩
def ifT (x y z : Ex) : Nat → List Tok
 | 0 => []
 | 1 => wTok wOpen :: wTok wIf :: toksE x
 | 2 => wTok wOpen :: wTok wIf :: (toksE x ++ wTok wThen :: toksE y)
 | _ => wTok wOpen :: wTok wIf :: (toksE x ++ wTok wThen :: (toksE y ++ wTok wElse :: toksE z))
set_option maxHeartbeats 8000000 in
theorem wexpr_step (hG : GX G) (e : Ex) (hf : fieldsE e = true) (ih : ∀ x ∈ parts e, WrC Tryz.prog G 53 [.agg (dEx x)] (toksE x)) : WrC Tryz.prog G 53 [.agg (dEx e)] (toksE e) := by
 intro B r ts H hB hlen hw
 have hfl := flat_len dEx_len e.l
 refine dcalls_intro Tryz.func53 Tryz.call53 rfl (by kernel_rfl) ?_
 simp (disch := omega) only [go_sem, DVal.cells]
 intro r3 hr3; dsimp only at hr3
 obtain ⟨K, hK⟩ : ∃ K', K' = upd H r3 (some (.cells (dEx e) 27)) := ⟨_, rfl⟩
 rw [← hK]
 have gr3 : K r3 = some (.cells (dEx e) 27) := by rw [hK]; exact upd_same _ _ _
 have hwK : WAt (upd B r3 (some (.cells (dEx e) 27))) r ts K := by rw [hK]; exact hw.frame hr3 _
 have n3 : r ≠ r3 := hw.ne hr3
 have hB3 : B r3 = none := (hw.lo hr3).1
 have hBK : upd B r3 (some (.cells (dEx e) 27)) r = none := by rw [upd_ne _ _ _ _ n3]; exact hB
 simp (disch := omega) only [go_sem, gr3]
 refine (namedE_spec G _ e).mono ?_
 rintro _ K1 ⟨rfl, rfl⟩
 by_cases hk : e.kind = 1
 ·have hnm : namedE e = false := by cases h : namedE e with | false => rfl | true => exact (nm_not (by omega) h).elim
  rw [toks1 hk] at hlen ⊢
  rw [hnm]
  simp (disch := omega) only [go_sem, gr3, hk]
  refine dwp_draws (by kernel_rfl) (.take 0 (.take 1 (.take 2 (.take 3 (.take 4 (.take 5 (.take 6 (.take 7 (.go 8 [4] (.go 9 [] (.take 10 (.take 11 (.go 12 [] .done))))))))))))) (by kernel_rfl) ?_
  obtain ⟨v, hv⟩ := hwK
  have gr := hv.keep (upd_same _ _ _)
  simp (disch := omega) only [go_sem, gr3, gr]
  intro r6 hr6; dsimp only at hr6
  have n6 : r ≠ r6 := none_ne hr6 gr
  have m6 := n6.symm
  have hv6 := hv.new hr6 (some (.cells (dTok (inTok e.n)) 52))
  simp (disch := omega) only [go_sem, gr, n6, m6]
  refine OwnJ.append (m := 1) hv6 rfl (by rw [List.length_singleton] at hlen; omega) fun v2 H6 hv2 => ?_
  have g6 := hv2.keep (upd_same _ _ _)
  obtain ⟨j1, j2⟩ := hv2.cell1
  simp (disch := omega) only [go_sem, g6, j1, j2]
  have h7 : WAt (upd B r3 (some (.cells (dEx e) 27))) r (ts ++ [inTok e.n]) (upd H6 r (some (.cells [v2] 83))) := by
   refine ⟨v2, ?_⟩
   have hv3 := hv2.at (upd_same _ _ _) (some (.cells [v2] 83))
   rw [upd_upd] at hv3
   rw [dToks_snoc, List.length_append, List.length_singleton]
   exact hv3
  exact DFin.refl ⟨rfl, h7.drop hB3⟩
 have z1 := hk; clear hk
 by_cases hk : e.kind = 2
 ·have hnm : namedE e = false := by cases h : namedE e with | false => rfl | true => exact (nm_not (by omega) h).elim
  rw [toks2 hk] at hlen ⊢
  rw [hnm]
  simp (disch := omega) only [go_sem, gr3, hk]
  intro q1 hq1; dsimp only at hq1
  simp (disch := omega) only [go_sem, hk]
  refine (put1 hG wNull hq1 hBK (by (try simp only [List.length_append, List.length_cons, List.length_nil, List.length_map]); omega) hwK).mono ?_
  rintro _ H1 ⟨rfl, h1⟩
  have g1 := h1.keep (upd_same _ _ _) n3.symm
  simp (disch := omega) only [go_sem]
  refine DFin.refl ⟨rfl, ?_⟩
  have := h1.drop hB3
  (try simp only [List.append_assoc, List.cons_append, List.nil_append] at this ⊢)
  exact this
 have z2 := hk; clear hk
 by_cases hk : e.kind = 3
 ·have hnm : namedE e = true := nm_of (by omega)
  rw [toks3 hk] at hlen ⊢
  rw [hnm]
  simp (disch := omega) only [go_sem, gr3, hk]
  refine (wname_spec G e.s _ r _ _ hBK hlen hwK).mono ?_
  rintro _ H1 ⟨rfl, h1⟩
  simp (disch := omega) only [go_sem]
  refine DFin.refl ⟨rfl, ?_⟩
  have := h1.drop hB3
  (try simp only [List.append_assoc, List.cons_append, List.nil_append] at this ⊢)
  exact this
 have z3 := hk; clear hk
 by_cases hk : e.kind = 4
 ·obtain ⟨⟨x, hx, _⟩, _⟩ := ff46 (.inl hk) hf
  have ht : toksE e = toksE x ++ [wTok wDot, nmTok e.s] := by rw [toks4 hk]; unfold tE; rw [hx]; rfl
  rw [ht, List.length_append] at hlen
  rw [ht]
  simp only [List.length_cons, List.length_nil] at hlen
  have hll : e.l.length = 1 := by rw [hx]; rfl
  have hfx := lx0 hx
  have hnm : namedE e = true := nm_of (by omega)
  rw [hnm]
  simp (disch := omega) only [go_sem, gr3, hk, hll, hfl, hfx]
  refine (ih x (mem_parts_l (by rw [hx]; simp)) _ r _ _ hBK (by omega) hwK).mono ?_
  rintro _ H1 ⟨rfl, h1⟩
  have g1 := h1.keep (upd_same _ _ _) n3.symm
  simp (disch := omega) only [go_sem, g1, hk]
  intro q1 hq1; dsimp only at hq1
  simp (disch := omega) only [go_sem, hk]
  refine (put1 hG wDot hq1 hBK (by (try simp only [List.length_append, List.length_cons, List.length_nil, List.length_map]); omega) h1).mono ?_
  rintro _ H2 ⟨rfl, h2⟩
  have g2 := h2.keep (upd_same _ _ _) n3.symm
  simp (disch := omega) only [go_sem, g2]
  refine (wname_spec G e.s _ r _ _ hBK (by (try simp only [List.length_append, List.length_cons, List.length_nil, List.length_map]); omega) h2).mono ?_
  rintro _ H3 ⟨rfl, h3⟩
  simp (disch := omega) only [go_sem]
  refine DFin.refl ⟨rfl, ?_⟩
  have := h3.drop hB3
  (try simp only [List.append_assoc, List.cons_append, List.nil_append] at this ⊢)
  exact this
 have z4 := hk; clear hk
 by_cases hk : e.kind = 5
 ·obtain ⟨⟨x, hx, _⟩, _⟩ := ff5 hk hf
  have ht : toksE e = toksE x ++ [wTok wDot, wTok wAll] := by rw [toks5 hk]; unfold tE; rw [hx]; rfl
  rw [ht, List.length_append] at hlen
  rw [ht]
  simp only [List.length_cons, List.length_nil] at hlen
  have hll : e.l.length = 1 := by rw [hx]; rfl
  have hfx := lx0 hx
  have hnm : namedE e = true := nm_of (by omega)
  rw [hnm]
  simp (disch := omega) only [go_sem, gr3, hk, hll, hfl, hfx]
  refine (ih x (mem_parts_l (by rw [hx]; simp)) _ r _ _ hBK (by omega) hwK).mono ?_
  rintro _ H1 ⟨rfl, h1⟩
  have g1 := h1.keep (upd_same _ _ _) n3.symm
  simp (disch := omega) only [go_sem, g1, hk]
  intro q1 hq1; dsimp only at hq1
  simp (disch := omega) only [go_sem]
  refine (put2 hG wDot wAll hq1 hBK (by (try simp only [List.length_append, List.length_cons, List.length_nil, List.length_map]); omega) h1).mono ?_
  rintro _ H2 ⟨rfl, h2⟩
  simp (disch := omega) only [go_sem]
  refine DFin.refl ⟨rfl, ?_⟩
  have := h2.drop hB3
  (try simp only [List.append_assoc, List.cons_append, List.nil_append] at this ⊢)
  exact this
 have z5 := hk; clear hk
 by_cases hk : e.kind = 6
 ·obtain ⟨⟨x, hx, _⟩, _⟩ := ff46 (.inr hk) hf
  have ht : toksE e = toksE x ++ [wTok wTick, nmTok e.s] := by rw [toks6 hk]; unfold tE; rw [hx]; rfl
  rw [ht, List.length_append] at hlen
  rw [ht]
  simp only [List.length_cons, List.length_nil] at hlen
  have hll : e.l.length = 1 := by rw [hx]; rfl
  have hfx := lx0 hx
  have hnm : namedE e = true := nm_of (by omega)
  rw [hnm]
  simp (disch := omega) only [go_sem, gr3, hk, hll, hfl, hfx]
  refine (ih x (mem_parts_l (by rw [hx]; simp)) _ r _ _ hBK (by omega) hwK).mono ?_
  rintro _ H1 ⟨rfl, h1⟩
  have g1 := h1.keep (upd_same _ _ _) n3.symm
  simp (disch := omega) only [go_sem, g1, hk]
  intro q1 hq1; dsimp only at hq1
  simp (disch := omega) only [go_sem, hk]
  refine (put1 hG wTick hq1 hBK (by (try simp only [List.length_append, List.length_cons, List.length_nil, List.length_map]); omega) h1).mono ?_
  rintro _ H2 ⟨rfl, h2⟩
  have g2 := h2.keep (upd_same _ _ _) n3.symm
  simp (disch := omega) only [go_sem, g2]
  refine (wname_spec G e.s _ r _ _ hBK (by (try simp only [List.length_append, List.length_cons, List.length_nil, List.length_map]); omega) h2).mono ?_
  rintro _ H3 ⟨rfl, h3⟩
  simp (disch := omega) only [go_sem]
  refine DFin.refl ⟨rfl, ?_⟩
  have := h3.drop hB3
  (try simp only [List.append_assoc, List.cons_append, List.nil_append] at this ⊢)
  exact this
 have z6 := hk; clear hk
 by_cases hk : e.kind = 7
 ·obtain ⟨⟨x, hx, _⟩, ha, _⟩ := ff7 hk hf
  have ht : toksE e = toksE x ++ wTok wOpen :: (taE e ++ [wTok wShut]) := by rw [toks7 hk]; unfold tE; rw [hx]; rfl
  rw [ht, List.length_append, List.length_cons, List.length_append] at hlen
  rw [ht]
  simp only [List.length_cons, List.length_nil, taE] at hlen
  unfold taE
  have hll : e.l.length = 1 := by rw [hx]; rfl
  rw [argsOk, Bool.and_eq_true, Bool.and_eq_true, Bool.and_eq_true, decide_eq_true_eq, decide_eq_true_eq, List.all_eq_true] at ha
  have hfx := lx0 hx
  have hnm : namedE e = true := nm_of (by omega)
  rw [hnm]
  simp (disch := omega) only [go_sem, gr3, hk, hll, hfl, hfx]
  refine (ih x (mem_parts_l (by rw [hx]; simp)) _ r _ _ hBK (by omega) hwK).mono ?_
  rintro _ H1 ⟨rfl, h1⟩
  have g1 := h1.keep (upd_same _ _ _) n3.symm
  simp (disch := omega) only [go_sem, g1, hk]
  intro q1 hq1; dsimp only at hq1
  simp (disch := omega) only [go_sem, hk]
  refine (put1 hG wOpen hq1 hBK (by (try simp only [List.length_append, List.length_cons, List.length_nil, List.length_map]); omega) h1).mono ?_
  rintro _ H2 ⟨rfl, h2⟩
  have g2 := h2.keep (upd_same _ _ _) n3.symm
  simp (disch := omega) only [go_sem, g2]
  refine (wlistA_spec hG e.a wComma (by omega) (fun a hma => wassoc_spec hG a (simple_right (ha.2 a hma)) fun y hy => ih y (mem_parts_a hma hy)) _ r _ _ hBK (by (try simp only [List.length_append, List.length_cons, List.length_nil, List.length_map]); omega) h2).mono ?_
  rintro _ H3 ⟨rfl, h3⟩
  simp (disch := omega) only [go_sem]
  intro q2 hq2; dsimp only at hq2
  simp (disch := omega) only [go_sem, hk]
  refine (put1 hG wShut hq2 hBK (by (try simp only [List.length_append, List.length_cons, List.length_nil, List.length_map]); omega) h3).mono ?_
  rintro _ H4 ⟨rfl, h4⟩
  have g4 := h4.keep (upd_same _ _ _) n3.symm
  simp (disch := omega) only [go_sem]
  refine DFin.refl ⟨rfl, ?_⟩
  have := h4.drop hB3
  (try simp only [List.append_assoc, List.cons_append, List.nil_append] at this ⊢)
  exact this
 have z7 := hk; clear hk
 by_cases hk : e.kind = 8
 ·obtain ⟨⟨x, y, hx, _⟩, _⟩ := ff8 hk hf
  have ht : toksE e = toksE x ++ wTok wTick :: parT (!bareK y.kind) (toksE y) := by rw [toks8 hk]; unfold tE; rw [hx]; rfl
  rw [ht, List.length_append, List.length_cons] at hlen
  rw [ht]
  have hll : e.l.length = 2 := by rw [hx]; rfl
  have hl1 := lx1 hx
  have hy0 : (e.l.flatMap dEx)[9]? = some (.int .u8 y.kind) := by
   rw [hx, List.flatMap_cons, List.flatMap_cons, dEx_eq x, dEx_eq y]; rfl
  have hyl := level_ge y
  have hfx := lx0 hx
  have hnm : namedE e = true := nm_of (by omega)
  rw [hnm]
  simp (disch := omega) only [go_sem, gr3, hk, hll, hfl, hfx]
  refine (ih x (mem_parts_l (by rw [hx]; simp)) _ r _ _ hBK (by omega) hwK).mono ?_
  rintro _ H1 ⟨rfl, h1⟩
  have g1 := h1.keep (upd_same _ _ _) n3.symm
  simp (disch := omega) only [go_sem, g1, hk]
  by_cases b9 : y.kind = 9
  ·have hb : parT (!bareK y.kind) (toksE y) = partE y 0 := by rw [b9, partE, decide_eq_false (by omega)]; rfl
   rw [hb] at hlen ⊢
   simp (disch := omega) only [go_sem, g1, hll, hfl, hy0, b9]
   intro q1 hq1; dsimp only at hq1
   simp (disch := omega) only [go_sem, hk]
   refine (put1 hG wTick hq1 hBK (by (try simp only [List.length_append, List.length_cons, List.length_nil, List.length_map]); omega) h1).mono ?_
   rintro _ H2 ⟨rfl, h2⟩
   have g2 := h2.keep (upd_same _ _ _) n3.symm
   simp (disch := omega) only [go_sem, g2, hll, hfl, hl1]
   refine (wpart_spec hG y 0 (ih y (mem_parts_l (by rw [hx]; simp))) _ r _ _ hBK (by (try simp only [List.length_append, List.length_cons, List.length_nil, List.length_map]); omega) h2).mono ?_
   rintro _ H3 ⟨rfl, h3⟩
   simp (disch := omega) only [go_sem]
   refine DFin.refl ⟨rfl, ?_⟩
   have := h3.drop hB3
   (try simp only [List.append_assoc, List.cons_append, List.nil_append] at this ⊢)
   exact this
  ·by_cases b10 : y.kind = 10
   ·have hb : parT (!bareK y.kind) (toksE y) = partE y 0 := by rw [b10, partE, decide_eq_false (by omega)]; rfl
    rw [hb] at hlen ⊢
    simp (disch := omega) only [go_sem, g1, hll, hfl, hy0, b10]
    intro q1 hq1; dsimp only at hq1
    simp (disch := omega) only [go_sem, hk]
    refine (put1 hG wTick hq1 hBK (by (try simp only [List.length_append, List.length_cons, List.length_nil, List.length_map]); omega) h1).mono ?_
    rintro _ H2 ⟨rfl, h2⟩
    have g2 := h2.keep (upd_same _ _ _) n3.symm
    simp (disch := omega) only [go_sem, g2, hll, hfl, hl1]
    refine (wpart_spec hG y 0 (ih y (mem_parts_l (by rw [hx]; simp))) _ r _ _ hBK (by (try simp only [List.length_append, List.length_cons, List.length_nil, List.length_map]); omega) h2).mono ?_
    rintro _ H3 ⟨rfl, h3⟩
    simp (disch := omega) only [go_sem]
    refine DFin.refl ⟨rfl, ?_⟩
    have := h3.drop hB3
    (try simp only [List.append_assoc, List.cons_append, List.nil_append] at this ⊢)
    exact this
   ·have hb : parT (!bareK y.kind) (toksE y) = partE y 6 := by rw [partE, decide_eq_true (by omega), bareK, decide_eq_false b9, decide_eq_false b10]; rfl
    rw [hb] at hlen ⊢
    simp (disch := omega) only [go_sem, g1, hll, hfl, hy0, b9, b10]
    intro q1 hq1; dsimp only at hq1
    simp (disch := omega) only [go_sem, hk]
    refine (put1 hG wTick hq1 hBK (by (try simp only [List.length_append, List.length_cons, List.length_nil, List.length_map]); omega) h1).mono ?_
    rintro _ H2 ⟨rfl, h2⟩
    have g2 := h2.keep (upd_same _ _ _) n3.symm
    simp (disch := omega) only [go_sem, g2, hll, hfl, hl1]
    refine (wpart_spec hG y 6 (ih y (mem_parts_l (by rw [hx]; simp))) _ r _ _ hBK (by (try simp only [List.length_append, List.length_cons, List.length_nil, List.length_map]); omega) h2).mono ?_
    rintro _ H3 ⟨rfl, h3⟩
    simp (disch := omega) only [go_sem]
    refine DFin.refl ⟨rfl, ?_⟩
    have := h3.drop hB3
    (try simp only [List.append_assoc, List.cons_append, List.nil_append] at this ⊢)
    exact this
 have z8 := hk; clear hk
 by_cases hk : e.kind = 9
 ·obtain ⟨hx, ha, _⟩ := ff9 hk hf
  have ht : toksE e = wTok wOpen :: (taE e ++ [wTok wShut]) := toks9 hk
  rw [ht, List.length_cons, List.length_append] at hlen
  rw [ht]
  simp only [List.length_cons, List.length_nil, taE] at hlen
  unfold taE
  have hnm : namedE e = false := by cases h : namedE e with | false => rfl | true => exact (nm_not (by omega) h).elim
  rw [hnm]
  rw [assocsOk] at ha
  simp only [Bool.and_eq_true, decide_eq_true_eq, Bool.not_eq_true'] at ha
  simp (disch := omega) only [go_sem, gr3, hk]
  intro q1 hq1; dsimp only at hq1
  simp (disch := omega) only [go_sem, hk]
  refine (put1 hG wOpen hq1 hBK (by (try simp only [List.length_append, List.length_cons, List.length_nil, List.length_map]); omega) hwK).mono ?_
  rintro _ H2 ⟨rfl, h2⟩
  have g2 := h2.keep (upd_same _ _ _) n3.symm
  simp (disch := omega) only [go_sem, g2]
  refine (wlistA_spec hG e.a wComma (by omega) (fun a hma => wassoc_spec hG a (right_right (assocAll_mem ha.2 a hma)) fun y hy => ih y (mem_parts_a hma hy)) _ r _ _ hBK (by (try simp only [List.length_append, List.length_cons, List.length_nil, List.length_map]); omega) h2).mono ?_
  rintro _ H3 ⟨rfl, h3⟩
  simp (disch := omega) only [go_sem]
  intro q2 hq2; dsimp only at hq2
  simp (disch := omega) only [go_sem, hk]
  refine (put1 hG wShut hq2 hBK (by (try simp only [List.length_append, List.length_cons, List.length_nil, List.length_map]); omega) h3).mono ?_
  rintro _ H4 ⟨rfl, h4⟩
  have g4 := h4.keep (upd_same _ _ _) n3.symm
  simp (disch := omega) only [go_sem]
  refine DFin.refl ⟨rfl, ?_⟩
  have := h4.drop hB3
  (try simp only [List.append_assoc, List.cons_append, List.nil_append] at this ⊢)
  exact this
 have z9 := hk; clear hk
 by_cases hk : e.kind = 10
 ·obtain ⟨⟨x, y, z, hx⟩, _⟩ := ff10 hk hf
  have ht : toksE e = ifT x y z 3 ++ [wTok wShut] := by rw [toks10 hk]; unfold tE; rw [hx]; simp [ifT]
  have hle3 : (ifT x y z 1).length ≤ (ifT x y z 3).length ∧ (ifT x y z 2).length ≤ (ifT x y z 3).length := by
   simp only [ifT, List.length_cons, List.length_append]; omega
  rw [ht, List.length_append, List.length_singleton] at hlen
  rw [ht]
  have hll : e.l.length = 3 := by rw [hx]; rfl
  have hl0 := lx0 hx
  have hl1 := lx1 hx
  have hl2 := lx2 hx
  have hnm : namedE e = false := by cases h : namedE e with | false => rfl | true => exact (nm_not (by omega) h).elim
  rw [hnm]
  simp (disch := omega) only [go_sem, gr3, hk]
  intro q0 hq0; dsimp only at hq0
  obtain ⟨L, hL⟩ : ∃ K', K' = upd K1 q0 (some (.cells [.str [105, 102], .str [116, 104, 101, 110], .str [101, 108, 115, 101]] 9)) := ⟨_, rfl⟩
  rw [← hL]
  have hwL : WAt (upd (upd B r3 (some (.cells (dEx e) 27))) q0 (some (.cells [.str [105, 102], .str [116, 104, 101, 110], .str [101, 108, 115, 101]] 9))) r ts L := by rw [hL]; exact hwK.frame hq0 _
  have n0 : r ≠ q0 := hwK.ne hq0
  have hB0 := (hwK.lo hq0).1
  have n30 : r3 ≠ q0 := none_ne hq0 gr3
  obtain ⟨C, hC⟩ : ∃ C, C = upd (upd B r3 (some (.cells (dEx e) 27))) q0 (some (.cells [.str [105, 102], .str [116, 104, 101, 110], .str [101, 108, 115, 101]] 9)) := ⟨_, rfl⟩
  rw [← hC] at hwL
  have hCr : C r = none := by rw [hC, upd_ne _ _ _ _ n0]; exact hBK
  have c3 : C r3 = some (.cells (dEx e) 27) := by rw [hC]; exact keepU (upd_same _ _ _) n30
  have c0 : C q0 = some (.cells [.str [105, 102], .str [116, 104, 101, 110], .str [101, 108, 115, 101]] 9) := by rw [hC]; exact upd_same _ _ _
  simp (disch := omega) only [go_sem]
  obtain ⟨I, hI⟩ : ∃ I : Nat → (Nat → DVal) → DHeap → Prop, ∀ j env heap, I j env heap ↔ (env 0 = .optr r 0 ∧ env 3 = .optr r3 0 ∧ env 111 = .oslice 1 q0 0 3 3 ∧ env 112 = dI 3 ∧ env 113 = dI j ∧ j ≤ 3 ∧ WAt C r (ts ++ ifT x y z j) heap) := ⟨_, fun _ _ _ => Iff.rfl⟩
  refine DLoop.run I (fun j => 3 - j) 0 ((hI _ _ _).2 ?_) ?_
  ·simp (disch := omega) only [go_sem]
   (repeat' apply And.intro) <;> (try first | rfl | assumption | omega)
   simpa [ifT] using hwL
  ·intro j env heap hi
   obtain ⟨e0, e3, e111, e112, e113, hj, hwj⟩ := (hI _ _ _).1 hi
   have g3 := hwj.keep c3 n3.symm
   have g0 := hwj.keep c0 n0.symm
   have hj' : j = 0 ∨ j = 1 ∨ j = 2 ∨ j = 3 := by omega
   have w1 : IntKind.i64.wrap (0 + 1) = 1 := by decide
   have w2 : IntKind.i64.wrap (1 + 1) = 2 := by decide
   have w3 : IntKind.i64.wrap (2 + 1) = 3 := by decide
   rcases hj' with rfl | rfl | rfl | rfl
   ·have z0 : ((0 : Nat) : Int) = 0 := rfl
    simp (disch := omega) only [go_sem, e0, e3, e111, e112, e113, g0, z0]
    intro p1 hp1; dsimp only at hp1
    simp (disch := omega) only [go_sem, e0, e3, e111, e112, e113]
    refine (put1 hG wOpen hp1 hCr (by simp only [ifT, List.append_nil]; omega) hwj).mono ?_
    rintro _ H1 ⟨rfl, h1⟩
    have f1 := h1.keep c3 n3.symm
    simp (disch := omega) only [go_sem, e0, e3, e111, e112, e113, f1]
    intro p2 hp2; dsimp only at hp2
    simp (disch := omega) only [go_sem, e0, e3, e111, e112, e113]
    refine (put1 hG wIf hp2 hCr (by simp only [ifT, List.append_nil, List.length_append, List.length_cons, List.length_nil] at hle3 hlen ⊢; omega) h1).mono ?_
    rintro _ H2 ⟨rfl, h2⟩
    have f2 := h2.keep c3 n3.symm
    simp (disch := omega) only [go_sem, e0, e3, e111, e112, e113, f2, hll, hfl, hl0]
    refine (ih x (mem_parts_l (by rw [hx]; simp)) _ r _ _ hCr (by simp only [ifT, List.append_nil, List.length_append, List.length_cons, List.length_nil] at hle3 hlen ⊢; omega) h2).mono ?_
    rintro _ H4 ⟨rfl, h4⟩
    simp (disch := omega) only [go_sem, e0, e3, e111, e112, e113]
    refine ⟨1, _, GhostS.refl _, (hI _ _ _).2 ?_, by omega⟩
    simp (disch := omega) only [go_sem, e0, e3, e111, e112, e113, w1]
    (repeat' apply And.intro) <;> (try first | rfl | assumption | omega)
    simpa [ifT] using h4
   ·have z0 : ((1 : Nat) : Int) = 1 := rfl
    simp (disch := omega) only [go_sem, e0, e3, e111, e112, e113, g0, z0]
    intro p2 hp2; dsimp only at hp2
    simp (disch := omega) only [go_sem, e0, e3, e111, e112, e113]
    refine (put1 hG wThen hp2 hCr (by simp only [ifT, List.append_nil, List.length_append, List.length_cons, List.length_nil] at hle3 hlen ⊢; omega) hwj).mono ?_
    rintro _ H2 ⟨rfl, h2⟩
    have f2 := h2.keep c3 n3.symm
    simp (disch := omega) only [go_sem, e0, e3, e111, e112, e113, f2, hll, hfl, hl1]
    refine (ih y (mem_parts_l (by rw [hx]; simp)) _ r _ _ hCr (by simp only [ifT, List.append_nil, List.length_append, List.length_cons, List.length_nil] at hle3 hlen ⊢; omega) h2).mono ?_
    rintro _ H4 ⟨rfl, h4⟩
    simp (disch := omega) only [go_sem, e0, e3, e111, e112, e113]
    refine ⟨2, _, GhostS.refl _, (hI _ _ _).2 ?_, by omega⟩
    simp (disch := omega) only [go_sem, e0, e3, e111, e112, e113, w2]
    (repeat' apply And.intro) <;> (try first | rfl | assumption | omega)
    simpa [ifT] using h4
   ·have z0 : ((2 : Nat) : Int) = 2 := rfl
    simp (disch := omega) only [go_sem, e0, e3, e111, e112, e113, g0, z0]
    intro p2 hp2; dsimp only at hp2
    simp (disch := omega) only [go_sem, e0, e3, e111, e112, e113]
    refine (put1 hG wElse hp2 hCr (by simp only [ifT, List.append_nil, List.length_append, List.length_cons, List.length_nil] at hle3 hlen ⊢; omega) hwj).mono ?_
    rintro _ H2 ⟨rfl, h2⟩
    have f2 := h2.keep c3 n3.symm
    simp (disch := omega) only [go_sem, e0, e3, e111, e112, e113, f2, hll, hfl, hl2]
    refine (ih z (mem_parts_l (by rw [hx]; simp)) _ r _ _ hCr (by simp only [ifT, List.append_nil, List.length_append, List.length_cons, List.length_nil] at hle3 hlen ⊢; omega) h2).mono ?_
    rintro _ H4 ⟨rfl, h4⟩
    simp (disch := omega) only [go_sem, e0, e3, e111, e112, e113]
    refine ⟨3, _, GhostS.refl _, (hI _ _ _).2 ?_, by omega⟩
    simp (disch := omega) only [go_sem, e0, e3, e111, e112, e113, w3]
    (repeat' apply And.intro) <;> (try first | rfl | assumption | omega)
    simpa [ifT] using h4
   ·have z0 : ((3 : Nat) : Int) = 3 := rfl
    simp (disch := omega) only [go_sem, e0, e3, e111, e112, e113, g0, z0]
    intro p2 hp2; dsimp only at hp2
    simp (disch := omega) only [go_sem, e0, e3, e111, e112, e113]
    refine (put1 hG wShut hp2 hCr (by simp only [List.length_append] at hlen ⊢; omega) hwj).mono ?_
    rintro _ H2 ⟨rfl, h2⟩
    simp (disch := omega) only [go_sem, e0]
    refine DFin.refl ⟨rfl, ?_⟩
    rw [hC] at h2
    have := (h2.drop hB0).drop hB3
    rw [List.append_assoc] at this
    exact this
 have z10 := hk; clear hk
 by_cases hk : e.kind = 11
 ·obtain ⟨⟨x, hx⟩, ⟨o, ho, ho2⟩, _⟩ := ff11 hk hf
  have ht : toksE e = (wordsN o).map wTok ++ partE x (leastM e) := by rw [toks11 hk, ho, Int.toNat_natCast]; unfold pE tE; rw [hx]; rfl
  rw [ht] at hlen ⊢
  have hnm : namedE e = false := by cases h : namedE e with | false => rfl | true => exact (nm_not (by omega) h).elim
  rw [hnm]
  simp (disch := omega) only [go_sem, gr3, hk]
  refine (wmona_spec hG e x o hx ho (by omega) (ih x (mem_parts_l (by rw [hx]; simp))) _ r _ _ hBK hlen hwK).mono ?_
  rintro _ H1 ⟨rfl, h1⟩
  simp (disch := omega) only [go_sem]
  exact DFin.refl ⟨rfl, h1.drop hB3⟩
 have z11 := hk; clear hk
 by_cases hk : e.kind = 12
 ·obtain ⟨⟨x, y, hx⟩, ⟨o, ho, ho2⟩, _⟩ := ff12 hk hf
  have ht : toksE e = partE x (leastL e) ++ ((wordsN o).map wTok ++ partE y (leastR e)) := by rw [toks12 hk, ho, Int.toNat_natCast]; unfold pE tE; rw [hx]; rfl
  rw [ht] at hlen ⊢
  have hnm : namedE e = false := by cases h : namedE e with | false => rfl | true => exact (nm_not (by omega) h).elim
  rw [hnm]
  simp (disch := omega) only [go_sem, gr3, hk]
  refine (wdyad_spec hG e x y o hx ho (by omega) (ih x (mem_parts_l (by rw [hx]; simp))) (ih y (mem_parts_l (by rw [hx]; simp))) _ r _ _ hBK hlen hwK).mono ?_
  rintro _ H1 ⟨rfl, h1⟩
  simp (disch := omega) only [go_sem]
  exact DFin.refl ⟨rfl, h1.drop hB3⟩
 have z12 := hk; clear hk
 have hkd : e.kind = 13 ∨ e.kind = 14 := by
  by_cases h : e.kind = 13 ∨ e.kind = 14
  ·exact h
  ·exfalso
   have : fieldsE e = false := by
    unfold fieldsE
    rw [if_neg z1, if_neg z2, if_neg z3, if_neg (by omega), if_neg z5, if_neg z7, if_neg z8, if_neg z9, if_neg z10, if_neg z11, if_neg z12, if_neg h]
   rw [this] at hf; cases hf
 obtain ⟨hx', _⟩ := ff134 hkd hf
 have hx : ∃ x, (∃ y z, e.l = [x, y, z]) ∨ ∃ y, e.l = [x, y] := by
  rcases hx' with ⟨x, y, z, hx⟩ | ⟨x, y, hx, _⟩
  ·exact ⟨x, .inl ⟨y, z, hx⟩⟩
  ·exact ⟨x, .inr ⟨y, hx⟩⟩
 clear hx'
 obtain ⟨x, hx⟩ := hx
 have g0 : e.l.getD 0 ex0 = x ∧ 0 < e.l.length := by rcases hx with ⟨y, z, hx⟩ | ⟨y, hx⟩ <;> (rw [hx]; exact ⟨rfl, by simp⟩)
 have hp0 : pE e 0 2 = partE x 2 := by rw [pE_at g0.2, g0.1]
 have hihl : ∀ y ∈ e.l, WrC Tryz.prog G 53 [.agg (dEx y)] (toksE y) := fun y hy => ih y (mem_parts_l hy)
 have hnm : namedE e = false := by cases h : namedE e with | false => rfl | true => exact (nm_not (by omega) h).elim
 rw [hnm]
 by_cases hk : e.kind = 13
 ·have ht : toksE e = partE x 2 ++ ([wIn].map wTok ++ tailE e) := by rw [toks13 hk, hp0]; rfl
  rw [ht] at hlen ⊢
  simp (disch := omega) only [go_sem, gr3, hk]
  intro q1 hq1; dsimp only at hq1
  simp (disch := omega) only [go_sem]
  refine DCalls.fzA q1 hq1 ?_
  simp only [fzs, fz, if_neg (hwK.ne hq1), if_pos, fz_dEx]
  refine (winside_spec hG e x [wIn] hx hihl _ r _ _ hBK hlen hwK).mono ?_
  rintro _ H1 ⟨rfl, h1⟩
  simp (disch := omega) only [go_sem]
  exact DFin.refl ⟨rfl, h1.drop hB3⟩
 ·have hk14 : e.kind = 14 := by omega
  have ht : toksE e = partE x 2 ++ ([wNot, wIn].map wTok ++ tailE e) := by rw [toks14 hk14, hp0]; rfl
  rw [ht] at hlen ⊢
  simp (disch := omega) only [go_sem, gr3, hk14]
  intro q1 hq1; dsimp only at hq1
  simp (disch := omega) only [go_sem]
  refine DCalls.fzA q1 hq1 ?_
  simp only [fzs, fz, if_neg (hwK.ne hq1), if_pos, fz_dEx]
  refine (winside_spec hG e x [wNot, wIn] hx hihl _ r _ _ hBK hlen hwK).mono ?_
  rintro _ H1 ⟨rfl, h1⟩
  simp (disch := omega) only [go_sem]
  exact DFin.refl ⟨rfl, h1.drop hB3⟩
end
end Go.Dl

-- Chapter 3: expressions: the plain laws, part 15: how many tokens an expression has.
namespace Go.Dl
open Go
set_option maxRecDepth 10000
def wt (l : List Ex) : Nat := (l.map fun x => (toksE x).length + 7).sum
theorem wt_append (l m : List Ex) : wt (l ++ m) = wt l + wt m := by simp [wt]
theorem wt_cons (x : Ex) (l : List Ex) : wt (x :: l) = (toksE x).length + 7 + wt l := by simp [wt]
theorem wt_nil : wt [] = 0 := rfl
theorem partE_len (x : Ex) (lv : Int) : (partE x lv).length ≤ (toksE x).length + 2 := by
 rw [partE, parT_len]; split <;> omega
theorem toksC_len {n : Nat} {c : Ch} (h : rightC n c = true) : (toksC c).length + 1 ≤ wt c.l + if c.kind = 3 then 2 else 0 := by
 unfold rightC at h
 by_cases c1 : c.kind = 1
 ·rw [if_pos c1, decide_eq_true_eq] at h
  obtain ⟨x, hx⟩ := len1 h
  rw [toksC_eq, if_pos c1, hx, wt_cons]
  show (toksE x).length + 1 ≤ _
  omega
 ·rw [if_neg c1] at h
  by_cases c2 : c.kind = 2
  ·rw [if_pos c2, decide_eq_true_eq] at h
   obtain ⟨x, y, hx⟩ := len2 h
   rw [toksC_eq, if_neg c1, if_pos c2, hx, wt_cons, wt_cons]
   show (partE x 2 ++ wTok wDots :: partE y 2).length + 1 ≤ _
   have := partE_len x 2
   have := partE_len y 2
   rw [List.length_append, List.length_cons]; omega
  ·rw [if_neg c2] at h
   simp only [Bool.and_eq_true, decide_eq_true_eq] at h
   rw [toksC_eq, if_neg c1, if_neg c2, if_pos h.1.1]
   show 1 + 1 ≤ _
   omega
theorem sumT_cons (t : List Tok) (ta : List (List Tok)) : sumT (t :: ta) = t.length + 1 + sumT ta := by simp [sumT]
theorem choices_len {n : Nat} (hn : n ≠ 1) : ∀ (l : List Ch), l.length ≤ n → (∀ c ∈ l, rightC n c = true) → sumT (l.map toksC) ≤ wt (l.flatMap Ch.l)
 | [], _, _ => Nat.zero_le _
 | c :: r, hl, h => by
  have ih := choices_len hn r (by rw [List.length_cons] at hl; omega) fun d hd => h d (by simp [hd])
  have hc := h c (by simp)
  have h1 := toksC_len hc
  rw [if_neg] at h1
  ·rw [List.map_cons, sumT_cons, List.flatMap_cons, wt_append]; omega
  ·intro c3
   unfold rightC at hc
   rw [if_neg (by omega), if_neg (by omega)] at hc
   simp only [Bool.and_eq_true, decide_eq_true_eq, List.length_cons] at hc hl
   omega
theorem right_len {l : List Ch} (h : rightCs l = true) : (sepT wBar (l.map toksC)).length ≤ wt (l.flatMap Ch.l) + 2 := by
 simp only [rightCs, Bool.and_eq_true, decide_eq_true_eq, List.all_eq_true] at h
 have h0 := sumT_len wBar (l.map toksC) (by intro e; rw [List.map_eq_nil_iff] at e; rw [e] at h; simp at h)
 by_cases hn : l.length = 1
 ·match l, hn with
  | [c], _ =>
   have h1 := toksC_len (h.2 c (by simp))
   have h2 : (if c.kind = 3 then 2 else 0) ≤ 2 := by split <;> omega
   rw [List.map_singleton, sumT_cons] at h0
   rw [List.map_singleton, List.flatMap_singleton]
   simp [sumT] at h0
   omega
 ·have := choices_len hn l (Nat.le_refl _) h.2
  omega
theorem simple_rights {l : List Ch} (h : simpleCs l = true) : rightCs l = true := by
 match l with
 | [c] =>
  simp only [simpleCs, Bool.and_eq_true, decide_eq_true_eq] at h
  simp only [rightCs, List.length_singleton, List.all_cons, List.all_nil, Bool.and_true, rightC, if_pos h.1]
  match hl : c.l with
  | [x] => rfl
  | [] => rw [hl] at h; cases h.2
  | _ :: _ :: _ => rw [hl] at h; cases h.2
 | [] => cases h
 | _ :: _ :: _ => cases h
theorem toksA_len {a : As} (h : (a.c.isEmpty || rightCs a.c) = true) : (toksA a).length + 1 ≤ wt (partsA a) := by
 rw [partsA, wt_append, wt_cons, wt_nil]
 by_cases c0 : a.c = []
 ·rw [toksA_eq, c0]
  show (toksE a.e).length + 1 ≤ _
  omega
 ·have hr : rightCs a.c = true := by
   rw [Bool.or_eq_true] at h
   rcases h with h | h
   ·exact absurd (List.isEmpty_iff.1 h) c0
   ·exact h
  have h1 := right_len hr
  rw [toksA_eq, if_neg (by simpa using c0), List.length_append, List.length_cons]
  omega
theorem assocs_len : ∀ (l : List As), (∀ a ∈ l, (a.c.isEmpty || rightCs a.c) = true) → sumT (l.map toksA) ≤ wt (l.flatMap partsA)
 | [], _ => Nat.zero_le _
 | a :: r, h => by
  have ih := assocs_len r fun d hd => h d (by simp [hd])
  have h1 := toksA_len (h a (by simp))
  rw [List.map_cons, sumT_cons, List.flatMap_cons, wt_append]; omega
theorem args_right {l : List As} (h : argsOk l = true) : ∀ a ∈ l, (a.c.isEmpty || rightCs a.c) = true := fun a ha => by
 rw [argsOk, Bool.and_eq_true, List.all_eq_true] at h
 have := h.2 a ha
 rw [Bool.or_eq_true] at this ⊢
 rcases this with h1 | h1
 ·exact .inl h1
 ·exact .inr (simple_rights h1)
theorem taE_len {l : List As} (h : ∀ a ∈ l, (a.c.isEmpty || rightCs a.c) = true) : (sepT wComma (l.map toksA)).length ≤ wt (l.flatMap partsA) := by
 have h1 := assocs_len l h
 rw [sepT_len]
 unfold sumT at h1
 unfold sepN; omega
theorem words_len (o : Nat) : (wordsN o).length ≤ 2 := by
 rw [wordsN, List.getD]
 by_cases h : o < 22
 ·have : ∀ i : Fin 22, ((wordsL[i.1]?).getD []).length ≤ 2 := by decide
  exact this ⟨o, h⟩
 ·rw [List.getElem?_eq_none (by have : wordsL.length = 22 := rfl; omega)]; decide
theorem toksE_len1 {e : Ex} (hf : fieldsE e = true) : (toksE e).length ≤ 10 + wt (parts e) := by
 have hpl : wt (parts e) = wt e.l + wt (e.a.flatMap partsA) := wt_append _ _
 by_cases k1 : e.kind = 1
 ·rw [toks1 k1]; show 1 ≤ _; omega
 by_cases k2 : e.kind = 2
 ·rw [toks2 k2]; show 1 ≤ _; omega
 by_cases k3 : e.kind = 3
 ·rw [toks3 k3]; show 1 ≤ _; omega
 by_cases k4 : e.kind = 4
 ·obtain ⟨⟨x, hx, _⟩, _⟩ := ff46 (.inl k4) hf
  rw [toks4 k4, hpl, hx, wt_cons]; unfold tE; rw [hx, List.length_append]
  show (toksE x).length + 2 ≤ _; omega
 by_cases k5 : e.kind = 5
 ·obtain ⟨⟨x, hx, _⟩, _⟩ := ff5 k5 hf
  rw [toks5 k5, hpl, hx, wt_cons]; unfold tE; rw [hx, List.length_append]
  show (toksE x).length + 2 ≤ _; omega
 by_cases k6 : e.kind = 6
 ·obtain ⟨⟨x, hx, _⟩, _⟩ := ff46 (.inr k6) hf
  rw [toks6 k6, hpl, hx, wt_cons]; unfold tE; rw [hx, List.length_append]
  show (toksE x).length + 2 ≤ _; omega
 by_cases k7 : e.kind = 7
 ·obtain ⟨⟨x, hx, _⟩, ha, _⟩ := ff7 k7 hf
  have h1 := taE_len (args_right ha)
  rw [toks7 k7, hpl, hx, wt_cons]; unfold tE taE; rw [hx, List.length_append, List.length_cons, List.length_append]
  show (toksE x).length + (_ + 1 + 1) ≤ _; omega
 by_cases k8 : e.kind = 8
 ·obtain ⟨⟨x, y, hx, _⟩, _⟩ := ff8 k8 hf
  rw [toks8 k8, hpl, hx, wt_cons, wt_cons]; unfold tE; rw [hx, List.length_append, List.length_cons, parT_len]
  show (toksE x).length + ((toksE y).length + _ + 1) ≤ _
  split <;> omega
 by_cases k9 : e.kind = 9
 ·obtain ⟨hx, ha, _⟩ := ff9 k9 hf
  rw [assocsOk, Bool.and_eq_true] at ha
  have h1 := taE_len (fun a hm => assocAll_mem ha.2 a hm)
  rw [toks9 k9, hpl, List.length_cons, List.length_append]; unfold taE
  show _ + 1 + 1 ≤ _; omega
 by_cases k10 : e.kind = 10
 ·obtain ⟨⟨x, y, z, hx⟩, _⟩ := ff10 k10 hf
  rw [toks10 k10, hpl, hx, wt_cons, wt_cons, wt_cons]; unfold tE; rw [hx]
  simp only [List.length_append, List.length_cons]
  show (toksE x).length + ((toksE y).length + ((toksE z).length + _ + 1) + 1) + 1 + 1 ≤ _
  simp only [List.length_nil]; omega
 by_cases k11 : e.kind = 11
 ·obtain ⟨⟨x, hx⟩, ⟨o, ho, _⟩, _⟩ := ff11 k11 hf
  have := words_len e.oper.toNat
  have := partE_len x (leastM e)
  have hp : pE e 0 (leastM e) = partE x (leastM e) := by unfold pE tE; rw [hx]; rfl
  rw [toks11 k11, hpl, hx, wt_cons, hp, List.length_append, List.length_map]; omega
 by_cases k12 : e.kind = 12
 ·obtain ⟨⟨x, y, hx⟩, _⟩ := ff12 k12 hf
  have := words_len e.oper.toNat
  have := partE_len x (leastL e)
  have := partE_len y (leastR e)
  have hp : pE e 0 (leastL e) = partE x (leastL e) := by unfold pE tE; rw [hx]; rfl
  have hq : pE e 1 (leastR e) = partE y (leastR e) := by unfold pE tE; rw [hx]; rfl
  rw [toks12 k12, hpl, hx, wt_cons, wt_cons, hp, hq, List.length_append, List.length_append, List.length_map]; omega
 by_cases h : e.kind = 13 ∨ e.kind = 14
 ·obtain ⟨hx', _⟩ := ff134 h hf
  have hT : (pE e 0 2).length + (tailE e).length + 3 ≤ 10 + wt (parts e) := by
   rcases hx' with ⟨x, y, z, hx⟩ | ⟨x, y, hx, _⟩
   ·have := partE_len x 2
    have := partE_len y 2
    have := partE_len z 2
    have hp : pE e 0 2 = partE x 2 := by unfold pE tE; rw [hx]; rfl
    have hq : tailE e = partE y 2 ++ wTok wDots :: partE z 2 := by unfold tailE pE tE; rw [hx]; rfl
    rw [hp, hq, hpl, hx, wt_cons, wt_cons, wt_cons, List.length_append, List.length_cons]; omega
   ·have := partE_len x 2
    have hp : pE e 0 2 = partE x 2 := by unfold pE tE; rw [hx]; rfl
    have hq : tailE e = toksE y := by unfold tailE pE tE; rw [hx]; rfl
    rw [hp, hq, hpl, hx, wt_cons, wt_cons]; omega
  rcases h with k | k
  ·rw [toks13 k, List.length_append, List.length_cons]; omega
  ·rw [toks14 k, List.length_append, List.length_cons, List.length_cons]; omega
 exfalso
 have : fieldsE e = false := by
  unfold fieldsE
  rw [if_neg k1, if_neg k2, if_neg k3, if_neg (by omega), if_neg k5, if_neg k7, if_neg k8, if_neg k9, if_neg k10, if_neg k11, if_neg k12, if_neg h]
 rw [this] at hf; cases hf
theorem wt_le {l : List Ex} (h : ∀ x ∈ l, (toksE x).length + 7 ≤ 17 * sizeE x) : wt l ≤ 17 * sumE l := by
 induction l with
 | nil => exact Nat.zero_le _
 | cons x l ih =>
  have h1 := h x (by simp)
  have h2 := ih fun y hy => h y (by simp [hy])
  rw [wt_cons, sumE, List.map_cons, List.sum_cons]
  unfold sumE at h2
  omega
theorem toksE_len (e : Ex) : ∀ d, validE d e = true → (toksE e).length + 7 ≤ 17 * sizeE e := by
 refine Ex.ind (p := fun e => ∀ d, validE d e = true → (toksE e).length + 7 ≤ 17 * sizeE e) (fun e ih d hv => ?_) e
 obtain ⟨hf, hp⟩ := valid_fields hv
 have h1 := toksE_len1 hf
 have h2 := wt_le fun x hx => ih x hx _ (hp x hx)
 rw [sizeE_sum e]; omega
theorem may_len {e : Ex} (h : mayE e = true) : (toksE e).length ≤ 5000 := by
 rw [mayE, Bool.and_eq_true, decide_eq_true_eq] at h
 have := toksE_len e 1 h.1
 omega
def tokensE (e : Ex) : List Tok × Int := if mayE e then (toksE e, 0) else ([], 2)
end Go.Dl

-- Chapter 3: the package's Tokens, ArgTokens, ChoiceTokens.
namespace Go.Dl
open Go Go.Proofs
set_option maxRecDepth 100000
section
variable {G : Nat → DVal}
theorem wexpr_all (hG : GX G) (e : Ex) : ∀ d, validE d e = true → WrC Tryz.prog G 53 [.agg (dEx e)] (toksE e) := by
 refine Ex.ind (p := fun e => ∀ d, validE d e = true → WrC Tryz.prog G 53 [.agg (dEx e)] (toksE e)) (fun e ih d hv => ?_) e
 obtain ⟨hf, hp⟩ := valid_fields hv
 exact wexpr_step hG e hf fun x hx => ih x hx _ (hp x hx)
theorem may_valid {e : Ex} (h : mayE e = true) : validE 1 e = true := by
 rw [mayE, Bool.and_eq_true] at h; exact h.1
theorem WAt.start {B : DHeap} {r : Nat} (hr : B r = none) : WAt B r [] (upd B r (some (.cells [.nilSlice] 83))) := ⟨_, .inl ⟨rfl, rfl, rfl, Sub.refl _⟩⟩
theorem WAt.cell {B H : DHeap} {r : Nat} {ts : List Tok} (h : WAt B r ts H) (hr : B r = none) : ∃ v, H r = some (.cells [v] 83) ∧ Seen H v B (dToks ts) := by
 obtain ⟨v, h⟩ := h
 exact ⟨v, h.keep (upd_same _ _ _), Seen.own (h.less ((Sub.refl B).up hr _))⟩
set_option maxHeartbeats 4000000 in
theorem tokens_spec (hG : GX G) (H : DHeap) (e : Ex) (he : Fit e) : DCalls Tryz.prog G 11 [.agg (dEx e)] H (DRet (.tuple [dToks (tokensE e).1, dI (tokensE e).2]) H) := by
 rw [tokensE]
 refine dcalls_intro Tryz.func11 Tryz.call11 rfl (by kernel_rfl) ?_
 simp (disch := omega) only [go_sem, DVal.cells]
 intro r1 hr1; dsimp only at hr1
 obtain ⟨K, hK⟩ : ∃ K', K' = upd H r1 (some (.cells (dEx e) 27)) := ⟨_, rfl⟩
 rw [← hK]
 have gr1 : K r1 = some (.cells (dEx e) 27) := by rw [hK]; exact upd_same _ _ _
 have hs : Sub H K := by rw [hK]; exact (Sub.refl H).new hr1 _
 simp (disch := omega) only [go_sem, gr1]
 refine (may_spec hG K e he).mono ?_
 rintro _ K1 ⟨rfl, rfl⟩
 cases hm : mayE e with
 | false =>
  simp (disch := omega) only [go_sem]
  exact Seen.fin hs (Seen.tuple (.cons (Seen.nil hs) (Seens.keep hs _))) ⟨rfl, rfl⟩
 | true =>
  have hlen := may_len hm
  simp (disch := omega) only [go_sem]
  intro r2 hr2; dsimp only at hr2
  have n12 : r1 ≠ r2 := none_ne hr2 gr1
  have m12 := n12.symm
  have hw := WAt.start hr2
  have g1 : upd K1 r2 (some (.cells [.nilSlice] 83)) r1 = some (.cells (dEx e) 27) := keepU gr1 n12
  simp (disch := omega) only [go_sem, g1]
  refine (wexpr_all hG e 1 (may_valid hm) K1 r2 [] _ hr2 (by simp; omega) hw).mono ?_
  rintro _ H1 ⟨rfl, h1⟩
  rw [List.nil_append] at h1
  have hs1 : Sub K1 H1 := by
   obtain ⟨v, h1⟩ := h1
   exact (((Sub.refl K1).up hr2 _).trans h1.sub)
  obtain ⟨v, hv1, hv2⟩ := h1.cell hr2
  simp (disch := omega) only [go_sem, hv1]
  have hsf : Sub H H1 := hs.trans hs1
  refine Seen.fin hsf (Seen.tuple (.cons (fun w hw x hx => Rel.lasts (lasts_sub hs w) _ _ (hv2 w hw x hx)) (Seens.keep hsf _))) ⟨rfl, rfl⟩
end
end Go.Dl
