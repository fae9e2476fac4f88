/- The data level and the contracts of the functions that are reached (part 6). -/
import Derived.Lib.IndexMore
import Derived.Lib.IndexAny
import Derived.Lib.TrimByte
import Derived.Lib.Strings
import Derived.Lib.Repeat
import Derived.Lib.CountLaws
import Derived.Lib.Fields
import Derived.Lib.SplitLaws
import Derived.Lib.ParseIntB
import Derived.Laws.RangeString
import Derived.Laws.RangeAny
import Derived.Test.YtojpnjngdiimhaaGreatDoorXe
set_option linter.unusedSimpArgs false
set_option linter.unusedVariables false
-- Chapter 2: tokens: the plain laws, part 3: the text of tokens, and the tokens of that text.
namespace Go.Dl
open Go
set_option maxRecDepth 10000

/-- Is t one of some symbols of one byte? -/
def isS (t : Tok) (of : List UInt8) : Bool := decide (t.kind = 4) && (match t.text with | [c] => decide (c ∈ of) | _ => false)
def dotsT (t : Tok) : Bool := isS t [46] || decide (t.kind = 4) && decide (t.text = [46, 46])
def apartT (a b : Tok) : Bool :=
  if isS b [44, 59, 41, 39] || isS a [40, 39] then false else if isS a [46] then dotsT b else if isS b [46] then dotsT a else true
def textT (t : Tok) : List UInt8 := (if t.kind = 3 then Lib.itoa t.n else []) ++ t.text
def joinR : Option Tok → List Tok → List UInt8
  | _, [] => []
  | none, t :: l => textT t ++ joinR (some t) l
  | some a, t :: l => (if apartT a t then [32] else []) ++ (textT t ++ joinR (some t) l)
def joinT (l : List Tok) : List UInt8 := joinR none l
def fineT (l : List Tok) : Bool := l.all mayT
def line0 (t : Tok) : Tok := { t with line := 0 }

theorem name_facts {w : List UInt8} (h : nameB w = true) : ∃ c r, w = c :: r ∧ letterB c = true ∧ w.length ≤ 32 ∧ w.all wordB = true ∧ keyB w = false := by
  unfold nameB at h
  simp only [Bool.and_eq_true, decide_eq_true_eq, Bool.not_eq_true'] at h
  obtain ⟨⟨⟨h1, h2⟩, h3⟩, h4⟩ := h
  match w with
  | [] => cases h1
  | c :: r => exact ⟨c, r, rfl, h1, h2, h3, h4⟩
theorem keys_all : ∀ w ∈ keysL, w.length ≤ 32 ∧ w.all letterB = true ∧ w ≠ [] := by decide +kernel
theorem letter_word {c : UInt8} (h : letterB c = true) : wordB c = true := by simp [wordB, h]
theorem key_facts {w : List UInt8} (h : keyB w = true) : ∃ c r, w = c :: r ∧ letterB c = true ∧ w.length ≤ 32 ∧ w.all wordB = true := by
  have hm : w ∈ keysL := of_decide_eq_true h
  obtain ⟨h1, h2, h3⟩ := keys_all w hm
  match w, h3 with
  | [], h3 => exact absurd rfl h3
  | c :: r, _ =>
    rw [List.all_eq_true] at h2
    exact ⟨c, r, rfl, h2 c (by simp), h1, List.all_eq_true.2 fun x hx => letter_word (h2 x hx)⟩
theorem syms1_all : ∀ c ∈ syms1, letterB c = false ∧ digitB c = false ∧ wordB c = false ∧ c ≠ 32 := by decide +kernel
theorem syms2_all : ∀ p ∈ syms2, letterB p.1 = false ∧ digitB p.1 = false ∧ wordB p.1 = false ∧ p.1 ≠ 32 ∧ p.1 ≠ 45 ∧ p.2 ∈ ([62, 46, 61] : List UInt8) := by decide +kernel
theorem sym_facts {w : List UInt8} (h : symB w = true) : (∃ a, w = [a] ∧ a ∈ syms1) ∨ ∃ a b, w = [a, b] ∧ (a, b) ∈ syms2 := by
  unfold symB at h
  simp only [Bool.and_eq_true, decide_eq_true_eq] at h
  obtain ⟨h1, h2⟩ := h
  match w with
  | [] => exact absurd rfl h1
  | [a] =>
    simp only [symN, List.length_singleton] at h2
    split at h2
    · rename_i hm; exact .inl ⟨a, rfl, hm⟩
    · cases h2
  | [a, b] =>
    simp only [symN, List.length_cons, List.length_nil] at h2
    split at h2
    · rename_i hm; exact .inr ⟨a, b, rfl, hm⟩
    · split at h2 <;> omega
  | a :: b :: c :: r =>
    simp only [symN, List.length_cons] at h2
    split at h2 <;> (try split at h2) <;> omega
theorem nDigits_le : ∀ (k n : Nat), n < 10 ^ (k + 1) → Lib.nDigits n ≤ k + 1
  | 0, n, h => by rw [Lib.nDigits_small (by simpa using h)]; exact Nat.le_refl _
  | k + 1, n, h => by
    by_cases h9 : n < 10
    · rw [Lib.nDigits_small h9]; omega
    · rw [Lib.nDigits_big h9]
      have := nDigits_le k (n / 10) (by rw [Nat.div_lt_iff_lt_mul (by omega)]; rw [Nat.pow_succ] at h; exact h)
      omega
theorem dec_len {n : Nat} (h : n ≤ 2147483647) : (Lib.decDigits n).length ≤ 10 := by
  rw [Lib.decDigits_length]
  exact nDigits_le 9 n (by omega)
theorem dec_dig (u : Nat) : ∀ b ∈ Lib.decDigits u, digitB b = true := by
  induction u using Nat.strongRecOn with
  | ind u ih =>
    have one : ∀ d : Nat, d < 10 → digitB (UInt8.ofNat (48 + d)) = true := fun d hd => by
      unfold digitB
      rw [UInt8.toNat_ofNat', Bool.and_eq_true, decide_eq_true_eq, decide_eq_true_eq]; omega
    intro b hb
    rw [Lib.decDigits] at hb
    split at hb
    · rename_i h
      rw [List.mem_singleton] at hb; subst hb; exact one u h
    · rename_i h
      rcases List.mem_append.1 hb with hb | hb
      · exact ih (u / 10) (by omega) b hb
      · rw [List.mem_singleton] at hb; subst hb; exact one _ (by omega)
theorem dec_cons (u : Nat) : ∃ c r, Lib.decDigits u = c :: r ∧ digitB c = true := by
  have h := dec_dig u
  have hne : Lib.decDigits u ≠ [] := by rw [Lib.decDigits]; split <;> simp
  match hd : Lib.decDigits u, hne with
  | [], hne => exact absurd rfl hne
  | c :: r, _ => rw [hd] at h; exact ⟨c, r, rfl, h c (by simp)⟩
theorem decV_snoc (w : List UInt8) (c : UInt8) : decV (w ++ [c]) = 10 * decV w + (c.toNat - 48) := by simp [decV, List.foldl_append]
theorem decV_dec (u : Nat) : decV (Lib.decDigits u) = u := by
  induction u using Nat.strongRecOn with
  | ind u ih =>
    have one : ∀ d : Nat, d < 10 → (UInt8.ofNat (48 + d)).toNat - 48 = d := fun d hd => by rw [UInt8.toNat_ofNat']; omega
    rw [Lib.decDigits]
    split
    · rename_i h
      show 10 * 0 + ((UInt8.ofNat (48 + u)).toNat - 48) = u
      rw [one u h]; omega
    · rename_i h
      rw [decV_snoc, ih (u / 10) (by omega), one _ (by omega)]; omega
theorem digit_word {c : UInt8} (h : digitB c = true) : wordB c = true := by simp [wordB, h]
theorem digit_letter {c : UInt8} (h : digitB c = true) : letterB c = false := by
  unfold digitB at h
  simp only [Bool.and_eq_true, decide_eq_true_eq] at h
  unfold letterB
  rw [Bool.or_eq_false_iff, Bool.and_eq_false_iff, Bool.and_eq_false_iff]
  exact ⟨.inl (decide_eq_false (by omega)), .inl (decide_eq_false (by omega))⟩
theorem itoa_pos {n : Int} (h : 0 ≤ n) : Lib.itoa n = Lib.decDigits n.toNat := by rw [Lib.itoa, if_neg (by omega)]

/-- What may stand behind a token's text. -/
def okNext (t : Tok) (r : List UInt8) : Prop := r = [] ∨ ∃ c r', r = c :: r' ∧ (if t.kind = 4 then ∀ a, t.text = [a] → (a, c) ∉ syms2 else wordB c = false)
theorem take_all : ∀ w : List UInt8, w.all wordB = true → wordL w = w
  | [], _ => rfl
  | c :: w, h => by
    rw [List.all_cons, Bool.and_eq_true] at h
    show List.takeWhile wordB (c :: w) = _
    rw [List.takeWhile_cons, h.1]
    have := take_all w h.2
    unfold wordL at this
    simp [this]
theorem word_head {w r : List UInt8} (hw : w.all wordB = true) (hr : r = [] ∨ ∃ c r', r = c :: r' ∧ wordB c = false) : wordL (w ++ r) = w := by
  have hww : wordL w = w := take_all w hw
  rcases hr with rfl | ⟨c, r', rfl, hc⟩
  · rw [List.append_nil, hww]
  · rw [word_app _ _ _ hc, hww]
theorem mayT_kind {t : Tok} (h : mayT t = true) : (t.kind = 1 ∧ t.n = 0 ∧ nameB t.text = true) ∨ (t.kind = 2 ∧ t.n = 0 ∧ keyB t.text = true) ∨ (t.kind = 4 ∧ t.n = 0 ∧ symB t.text = true) ∨ (t.kind = 3 ∧ t.text = [] ∧ 0 ≤ t.n ∧ t.n ≤ 2147483647) := by
  unfold mayT at h
  split at h
  · rename_i k
    simp only [Bool.and_eq_true, decide_eq_true_eq] at h
    exact .inl ⟨k, h⟩
  · split at h
    · rename_i k
      simp only [Bool.and_eq_true, decide_eq_true_eq] at h
      exact .inr (.inl ⟨k, h⟩)
    · split at h
      · rename_i k
        simp only [Bool.and_eq_true, decide_eq_true_eq] at h
        exact .inr (.inr (.inl ⟨k, h⟩))
      · simp only [Bool.and_eq_true, decide_eq_true_eq] at h
        exact .inr (.inr (.inr ⟨h.1.1.1, h.1.1.2, h.1.2, h.2⟩))
/-- A token's text is read as the token. -/
theorem first_text {t : Tok} (h : mayT t = true) {r : List UInt8} (hr : okNext t r) : firstT (textT t ++ r) = (line0 t, (textT t).length) := by
  obtain ⟨k, li, tx, n⟩ := t
  rcases mayT_kind h with ⟨rfl, h1, h2⟩ | ⟨rfl, h1, h2⟩ | ⟨rfl, h1, h2⟩ | ⟨rfl, h1, h2, h3⟩
  · dsimp only at h1 h2
    subst h1
    obtain ⟨c, w, rfl, hc, _, ha, hk⟩ := name_facts h2
    have hw := word_head ha (by simpa [okNext] using hr)
    have e : textT ⟨1, li, c :: w, 0⟩ = c :: w := rfl
    rw [e]
    show (if letterB c then _ else _) = _
    rw [if_pos hc]
    rw [hw, hk, h2]; rfl
  · dsimp only at h1 h2
    subst h1
    obtain ⟨c, w, rfl, hc, _, ha⟩ := key_facts h2
    have hw := word_head ha (by simpa [okNext] using hr)
    have e : textT ⟨2, li, c :: w, 0⟩ = c :: w := rfl
    rw [e]
    show (if letterB c then _ else _) = _
    rw [if_pos hc]
    rw [hw, h2]; rfl
  · dsimp only at h1 h2
    subst h1
    have e : textT ⟨4, li, tx, 0⟩ = tx := rfl
    rw [e]
    rcases sym_facts h2 with ⟨a, rfl, ha⟩ | ⟨a, b, rfl, hab⟩
    · obtain ⟨f1, f2, _, _⟩ := syms1_all a ha
      have hs : symN (a :: r) = 1 := by
        rcases hr with rfl | ⟨c, r', rfl, hc⟩
        · simp only [symN, if_pos ha]
        · rw [if_pos rfl] at hc
          simp only [symN, if_neg (hc a rfl), if_pos ha]
      show (if letterB a then _ else if digitB a then _ else _) = _
      rw [f1, f2]
      show (Tok.mk 4 0 ((a :: r).take (symN (a :: r))) 0, symN (a :: r)) = _
      rw [hs]; rfl
    · obtain ⟨f1, f2, _, _⟩ := syms2_all _ hab
      have hs : symN (a :: b :: r) = 2 := by simp only [symN, if_pos hab]
      show (if letterB a then _ else if digitB a then _ else _) = _
      rw [f1, f2]
      show (Tok.mk 4 0 ((a :: b :: r).take (symN (a :: b :: r))) 0, symN (a :: b :: r)) = _
      rw [hs]; rfl
  · dsimp only at h1 h2 h3
    subst h1
    obtain ⟨u, rfl⟩ : ∃ u : Nat, n = u := ⟨n.toNat, by omega⟩
    have e : textT ⟨3, li, [], (u : Int)⟩ = Lib.decDigits u := by
      show Lib.itoa (u : Int) ++ [] = _
      rw [itoa_pos (by omega), List.append_nil]; rfl
    rw [e]
    obtain ⟨c, w, hcw, hc⟩ := dec_cons u
    have hd := dec_dig u
    have hl := dec_len (n := u) (by omega)
    have hv := decV_dec u
    rw [hcw] at hd hl hv ⊢
    have ha : (c :: w).all digitB = true := List.all_eq_true.2 hd
    have hw := word_head (w := c :: w) (List.all_eq_true.2 fun x hx => digit_word (hd x hx)) (by simpa [okNext] using hr)
    show (if letterB c then _ else if digitB c then _ else _) = _
    rw [digit_letter hc, hc, hw]
    have hi : intV (c :: w) = some u := by rw [intV, if_pos ⟨hl, ha, by rw [hv]; omega⟩, hv]
    rw [if_neg (by simp), if_pos rfl, hi]
    rfl
end Go.Dl

-- Chapter 2: tokens: the plain laws, part 4: the tokens of the text of tokens.
namespace Go.Dl
open Go
set_option maxRecDepth 10000

theorem head_cases {t : Tok} (h : mayT t = true) : ∃ c r, textT t = c :: r ∧ ((wordB c = true ∧ t.kind ≠ 4 ∧ (c :: r).all wordB = true ∧ (c :: r).length ≤ 32) ∨
    t.kind = 4 ∧ ((t.text = [c] ∧ r = [] ∧ c ∈ syms1) ∨ ∃ b, t.text = [c, b] ∧ r = [b] ∧ (c, b) ∈ syms2)) := by
  obtain ⟨k, li, tx, n⟩ := t
  rcases mayT_kind h with ⟨rfl, h1, h2⟩ | ⟨rfl, h1, h2⟩ | ⟨rfl, h1, h2⟩ | ⟨rfl, h1, h2, h3⟩
  · obtain ⟨c, w, e, hc, hl, ha, hk⟩ := name_facts h2
    dsimp only at e; subst e
    exact ⟨c, w, rfl, .inl ⟨letter_word hc, by simp, ha, hl⟩⟩
  · obtain ⟨c, w, e, hc, hl, ha⟩ := key_facts h2
    dsimp only at e; subst e
    exact ⟨c, w, rfl, .inl ⟨letter_word hc, by simp, ha, hl⟩⟩
  · rcases sym_facts h2 with ⟨a, e, ha⟩ | ⟨a, b, e, hab⟩ <;> (dsimp only at e; subst e)
    · exact ⟨a, [], rfl, .inr ⟨rfl, .inl ⟨rfl, rfl, ha⟩⟩⟩
    · exact ⟨a, [b], rfl, .inr ⟨rfl, .inr ⟨b, rfl, rfl, hab⟩⟩⟩
  · dsimp only at h1 h2 h3
    subst h1
    obtain ⟨u, rfl⟩ : ∃ u : Nat, n = u := ⟨n.toNat, by omega⟩
    have e : textT ⟨3, li, [], (u : Int)⟩ = Lib.decDigits u := by
      show Lib.itoa (u : Int) ++ [] = _
      rw [itoa_pos (by omega), List.append_nil]; rfl
    obtain ⟨c, w, hcw, hc⟩ := dec_cons u
    have hd := dec_dig u
    have hl := dec_len (n := u) (by omega)
    rw [hcw] at hd hl e
    exact ⟨c, w, e, .inl ⟨digit_word hc, by simp, List.all_eq_true.2 fun x hx => digit_word (hd x hx), by omega⟩⟩
theorem word_char {c : UInt8} (h : wordB c = true) : 33 ≤ c.toNat ∧ c.toNat ≤ 126 := by
  have hu : c = 95 → c.toNat = 95 := fun e => by rw [e]; rfl
  unfold wordB letterB digitB at h
  simp only [Bool.or_eq_true, Bool.and_eq_true, decide_eq_true_eq] at h
  rcases h with ((h | h) | h) | h
  · omega
  · omega
  · omega
  · have := hu h; omega
theorem syms1_char : ∀ c ∈ syms1, 33 ≤ c.toNat ∧ c.toNat ≤ 126 := by decide +kernel
theorem syms2_char : ∀ p ∈ syms2, (33 ≤ p.1.toNat ∧ p.1.toNat ≤ 126) ∧ 33 ≤ p.2.toNat ∧ p.2.toNat ≤ 126 := by decide +kernel
theorem text_char {t : Tok} (h : mayT t = true) : (∀ c ∈ textT t, 33 ≤ c.toNat ∧ c.toNat ≤ 126) ∧ 1 ≤ (textT t).length ∧ (textT t).length ≤ 32 := by
  obtain ⟨c, r, e, h1 | ⟨_, ⟨_, rfl, h2⟩ | ⟨b, _, rfl, h2⟩⟩⟩ := head_cases h
  · rw [e]
    exact ⟨fun x hx => word_char (List.all_eq_true.1 h1.2.2.1 x hx), by simp, h1.2.2.2⟩
  · rw [e]
    refine ⟨fun x hx => ?_, by simp, by simp⟩
    rw [List.mem_singleton] at hx; subst hx; exact syms1_char x h2
  · rw [e]
    refine ⟨fun x hx => ?_, by simp, by simp⟩
    have := syms2_char _ h2
    simp only [List.mem_cons, List.not_mem_nil, or_false] at hx
    rcases hx with rfl | rfl
    · exact this.1
    · exact this.2
theorem isS_at {t : Tok} {of : List UInt8} (h : isS t of = true) : t.kind = 4 ∧ ∃ c, t.text = [c] ∧ c ∈ of := by
  unfold isS at h
  rw [Bool.and_eq_true, decide_eq_true_eq] at h
  refine ⟨h.1, ?_⟩
  have := h.2
  split at this
  · rename_i c e; exact ⟨c, e, of_decide_eq_true this⟩
  · cases this
theorem isS_mk {t : Tok} {of : List UInt8} {c : UInt8} (h : t.kind = 4) (e : t.text = [c]) (hc : c ∈ of) : isS t of = true := by
  unfold isS
  rw [e, h]; simp [hc]
theorem textS {t : Tok} (h : t.kind = 4) : textT t = t.text := by
  unfold textT; rw [h]; rfl
theorem second_no {a c : UInt8} (h : c ∉ ([62, 46, 61] : List UInt8)) : (a, c) ∉ syms2 := fun hm => h (syms2_all _ hm).2.2.2.2.2
theorem syms2_46 : ∀ p ∈ syms2, (p.1 = 46 → p.2 = 46) ∧ (p.2 = 46 → p.1 = 46) ∧ p.1 ≠ 40 ∧ p.1 ≠ 39 := by decide +kernel

/-- What stands behind a token in a text does not go on with it. -/
theorem next_ok {t : Tok} (_ : mayT t = true) : ∀ l : List Tok, fineT l = true → okNext t (joinR (some t) l)
  | [], _ => .inl rfl
  | b :: l, hl => by
    rw [fineT, List.all_cons, Bool.and_eq_true] at hl
    obtain ⟨c, r, e, hcase⟩ := head_cases hl.1
    refine .inr ?_
    unfold joinR
    cases hap : apartT t b with
    | true =>
      refine ⟨32, _, rfl, ?_⟩
      split
      · intro a _; exact second_no (by decide)
      · rfl
    | false =>
      refine ⟨c, r ++ joinR (some b) l, by rw [e]; rfl, ?_⟩
      unfold apartT at hap
      split at hap
      · rename_i hc
        rw [Bool.or_eq_true] at hc
        rcases hc with hc | hc
        · obtain ⟨k4, x, hx, hm⟩ := isS_at hc
          have : c = x := by
            rw [textS k4, hx] at e; cases e; rfl
          subst this
          split
          · intro a _; refine second_no fun h2 => ?_
            simp only [List.mem_cons, List.not_mem_nil, or_false] at hm h2
            rcases hm with rfl | rfl | rfl | rfl <;> rcases h2 with h2 | h2 | h2 <;> exact absurd h2 (by decide)
          · simp only [List.mem_cons, List.not_mem_nil, or_false] at hm
            rcases hm with rfl | rfl | rfl | rfl <;> rfl
        · obtain ⟨k4, x, hx, hm⟩ := isS_at hc
          rw [if_pos k4]
          intro a ha
          rw [hx] at ha; cases ha
          intro h2
          have := syms2_46 _ h2
          simp only [List.mem_cons, List.not_mem_nil, or_false] at hm
          rcases hm with rfl | rfl
          · exact this.2.2.1 rfl
          · exact this.2.2.2 rfl
      · split at hap
        · rename_i hc
          obtain ⟨k4, x, hx, hm⟩ := isS_at hc
          rw [if_pos k4]
          intro a ha
          rw [hx] at ha; cases ha
          intro h2
          rw [List.mem_singleton] at hm; subst hm
          have hc46 := (syms2_46 _ h2).1 rfl
          dsimp only at hc46
          subst hc46
          unfold dotsT at hap
          rw [Bool.or_eq_false_iff] at hap
          rcases hcase with ⟨hw, _⟩ | ⟨kb, ⟨tb, _, _⟩ | ⟨y, tb, _, hy⟩⟩
          · cases hw
          · rw [isS_mk kb tb (by simp)] at hap
            cases hap.1
          · have hy2 := (syms2_46 _ hy).1 rfl
            dsimp only at hy2
            subst hy2
            have := hap.2
            rw [kb, tb] at this
            simp at this
        · split at hap
          · rename_i hna hc
            obtain ⟨k4, x, hx, hm⟩ := isS_at hc
            rw [List.mem_singleton] at hm; subst hm
            have : c = 46 := by
              rw [textS k4, hx] at e; cases e; rfl
            subst this
            split
            · rename_i kt
              intro a ha h2
              have := (syms2_46 _ h2).2.1 rfl
              dsimp only at this
              subst this
              exact hna (isS_mk kt ha (by simp))
            · rfl
          · cases hap
theorem com_no {t : Tok} (h : mayT t = true) {l : List Tok} (hl : fineT l = true) : isCom (textT t ++ joinR (some t) l) = false := by
  obtain ⟨c, r, e, hcase⟩ := head_cases h
  rw [e]
  by_cases hc : c = 45
  · subst hc
    rcases hcase with ⟨hw, _⟩ | ⟨kt, ⟨tt, rfl, _⟩ | ⟨y, _, _, hy⟩⟩
    · cases hw
    · match l, hl with
      | [], _ => rfl
      | b :: l, hl =>
        rw [fineT, List.all_cons, Bool.and_eq_true] at hl
        obtain ⟨d, q, eb, hb⟩ := head_cases hl.1
        unfold joinR
        have n1 : isS t [40, 39] = false := by unfold isS; rw [tt, kt]; rfl
        have n2 : isS t [46] = false := by unfold isS; rw [tt, kt]; rfl
        have n3 : dotsT t = false := by unfold dotsT; rw [n2, tt, kt]; rfl
        cases hap : apartT t b with
        | true => rfl
        | false =>
          unfold apartT at hap
          rw [n1, n2, n3, Bool.or_false] at hap
          have hd : d ≠ 45 := by
            split at hap
            · rename_i hx
              obtain ⟨k4, x, hx, hm⟩ := isS_at hx
              have : d = x := by rw [textS k4, hx] at eb; cases eb; rfl
              subst this
              intro e45; subst e45; exact absurd hm (by decide)
            · rw [if_neg (by simp)] at hap
              split at hap
              · rename_i hx
                obtain ⟨k4, x, hx, hm⟩ := isS_at hx
                have : d = x := by rw [textS k4, hx] at eb; cases eb; rfl
                subst this
                intro e45; subst e45; exact absurd hm (by decide)
              · cases hap
          show isCom (45 :: ([] ++ (textT b ++ joinR (some b) l))) = false
          rw [eb]
          show isCom (45 :: d :: _) = false
          unfold isCom
          split
          · rename_i h45; simp at h45; exact absurd h45.1 hd
          · rfl
    · exact absurd rfl (syms2_all _ hy).2.2.2.2.1
  · unfold isCom
    split
    · rename_i h45; simp at h45; exact absurd h45.1 hc
    · rfl
theorem trim_text {t : Tok} (h : mayT t = true) (r : List UInt8) : trimL (textT t ++ r) = textT t ++ r := by
  obtain ⟨hc, hl, _⟩ := text_char h
  match e : textT t with
  | [] => rw [e] at hl; simp at hl
  | c :: w =>
    rw [e] at hc
    have := (hc c (by simp)).1
    have hne : (c == 32) = false := by
      rw [beq_eq_false_iff_ne]; intro e; subst e; exact absurd this (by decide)
    show List.dropWhile _ (c :: (w ++ r)) = _
    rw [List.dropWhile_cons, hne]; rfl
/-- The tokens of a text of tokens. -/
theorem yields_back : ∀ (l : List Tok) (a : Option Tok) (k : Nat), fineT l = true → yieldsL (List.replicate k 32 ++ joinR a l) = l.map fun t => (line0 t, true)
  | [], a, k, _ => by
    have e : joinR a [] = [] := by cases a <;> rfl
    have e2 : trimL (List.replicate k 32) = [] := by
      unfold trimL
      rw [List.dropWhile_replicate]; rfl
    rw [e, List.append_nil, yieldsL_eq, e2]; rfl
  | t :: l, a, k, h => by
    rw [fineT, List.all_cons, Bool.and_eq_true] at h
    have htr : trimL (List.replicate k 32 ++ joinR a (t :: l)) = textT t ++ joinR (some t) l := by
      have h1 := trim_text h.1 (joinR (some t) l)
      have h2 : ∀ x : List UInt8, trimL (List.replicate k 32 ++ x) = trimL x := fun x => by
        refine trim_nil _ _ ?_
        unfold trimL
        rw [List.dropWhile_replicate]; rfl
      rw [h2]
      cases a with
      | none => exact h1
      | some a =>
        rw [show joinR (some a) (t :: l) = (if apartT a t then [32] else []) ++ (textT t ++ joinR (some t) l) from rfl]
        split
        · exact h1
        · exact h1
    have hne : textT t ++ joinR (some t) l ≠ [] := fun e => by
      have := (text_char h.1).2.1
      rw [List.append_eq_nil_iff] at e
      rw [e.1] at this; simp at this
    rw [yieldsL_eq, htr, com_no h.1 h.2, first_text h.1 (next_ok h.1 l h.2)]
    have hpos := (text_char h.1).2.1
    rw [if_neg (fun hh => hh.elim hne (by simp)), if_neg (by dsimp only; omega)]
    dsimp only
    rw [List.drop_left, List.map_cons]
    have := yields_back l (some t) 0 h.2
    rw [List.replicate_zero, List.nil_append] at this
    rw [this]
end Go.Dl

-- Chapter 2: tokens: the plain laws, part 5: a line, lines, again.
namespace Go.Dl
open Go
set_option maxRecDepth 10000

theorem joinR_char : ∀ (l : List Tok) (a : Option Tok), fineT l = true → ∀ c ∈ joinR a l, 32 ≤ c.toNat ∧ c.toNat ≤ 126
  | [], a, _, c, hc => by cases a <;> cases hc
  | t :: l, a, h, c, hc => by
    rw [fineT, List.all_cons, Bool.and_eq_true] at h
    have key : c ∈ textT t ++ joinR (some t) l → 32 ≤ c.toNat ∧ c.toNat ≤ 126 := fun hm => by
      rcases List.mem_append.1 hm with hm | hm
      · have := (text_char h.1).1 c hm; omega
      · exact joinR_char l (some t) h.2 c hm
    cases a with
    | none => exact key hc
    | some a =>
      rw [show joinR (some a) (t :: l) = (if apartT a t then [32] else []) ++ (textT t ++ joinR (some t) l) from rfl] at hc
      rcases List.mem_append.1 hc with hm | hm
      · split at hm
        · rw [List.mem_singleton] at hm; subst hm; exact ⟨by decide, by decide⟩
        · cases hm
      · exact key hm
theorem joinR_no {l : List Tok} {a : Option Tok} (h : fineT l = true) : (10 : UInt8) ∉ joinR a l := fun hc => by
  have := (joinR_char l a h 10 hc).1
  exact absurd this (by decide)
theorem joinR_len : ∀ (l : List Tok) (a : Option Tok), fineT l = true → l.length ≤ (joinR a l).length ∧ (joinR a l).length ≤ 33 * l.length
  | [], a, _ => by cases a <;> exact ⟨Nat.le_refl _, Nat.le_refl _⟩
  | t :: l, a, h => by
    rw [fineT, List.all_cons, Bool.and_eq_true] at h
    have h1 := (text_char h.1).2
    have h2 := joinR_len l (some t) h.2
    cases a with
    | none =>
      show _ ≤ (textT t ++ joinR (some t) l).length ∧ (textT t ++ joinR (some t) l).length ≤ _
      rw [List.length_append, List.length_cons]; omega
    | some a =>
      rw [show joinR (some a) (t :: l) = (if apartT a t then [32] else []) ++ (textT t ++ joinR (some t) l) from rfl, List.length_append, List.length_append, List.length_cons]
      split
      · rw [List.length_singleton]; omega
      · rw [List.length_nil]; omega

theorem errY_none {y : List (Tok × Bool × Int)} (h : ∀ p ∈ y, p.2.1 = true) : errY y = none := by
  rw [errY, List.find?_eq_none.2 (fun p hp => by rw [h p hp]; simp)]; rfl
theorem outY_none : ∀ (y : List (Tok × Bool × Int)) (n : Nat), (∀ p ∈ y, p.2.1 = true) → n + y.length ≤ 8192 → outY y n = none := fun y n h hl => by
  rw [outY_small y n hl, errY_none h]
/-- The text of a line: two spaces for each depth. -/
def lineX (d : Nat) (l : List Tok) : List UInt8 := List.replicate (2 * d) 32 ++ joinT l
def linesX (ls : List (Nat × List Tok)) : List UInt8 := ls.flatMap fun x => lineX x.1 x.2 ++ [10]
/-- The tokens of lines, each with its line's number. -/
def numT : List (List Tok) → Nat → List Tok
  | [], _ => []
  | l :: ls, i => l.map (fun t => { t with line := (i : Int) }) ++ numT ls (i + 1)
theorem lineX_no {d : Nat} {l : List Tok} (h : fineT l = true) : (10 : UInt8) ∉ lineX d l := fun hc => by
  rcases List.mem_append.1 hc with hm | hm
  · have := (List.mem_replicate.1 hm).2
    exact absurd this (by decide)
  · exact joinR_no h hm
theorem linesX_lines : ∀ ls : List (Nat × List Tok), (∀ x ∈ ls, fineT x.2 = true) → linesL (linesX ls) = ls.map (fun x => lineX x.1 x.2) ++ [[]]
  | [], _ => rfl
  | x :: ls, h => by
    have ih := linesX_lines ls fun y hy => h y (by simp [hy])
    rw [linesL] at ih ⊢
    rw [show linesX (x :: ls) = lineX x.1 x.2 ++ 10 :: linesX ls by simp [linesX], splitBy_at 10 _ _ (lineX_no (h x (by simp))), ih]; rfl
theorem allY_back : ∀ (ls : List (Nat × List Tok)) (i : Nat), (∀ x ∈ ls, fineT x.2 = true) → (∀ p ∈ allY (ls.map (fun x => lineX x.1 x.2) ++ [[]]) i, p.2.1 = true) ∧ (allY (ls.map (fun x => lineX x.1 x.2) ++ [[]]) i).map (·.1) = numT (ls.map (·.2)) i
  | [], i, _ => by
    have e : allY (([] : List (Nat × List Tok)).map (fun x => lineX x.1 x.2) ++ [[]]) i = [] := rfl
    rw [e]
    exact ⟨fun p hp => (by cases hp), rfl⟩
  | x :: ls, i, h => by
    obtain ⟨h1, h2⟩ := allY_back ls (i + 1) fun y hy => h y (by simp [hy])
    have hy : yieldsL (lineX x.1 x.2) = x.2.map fun t => (line0 t, true) := yields_back x.2 none (2 * x.1) (h x (by simp))
    rw [List.map_cons, List.cons_append, allY, hy]
    refine ⟨fun p hp => ?_, ?_⟩
    · rcases List.mem_append.1 hp with hp | hp
      · simp only [List.map_map, List.mem_map, Function.comp] at hp
        obtain ⟨t, _, rfl⟩ := hp; rfl
      · exact h1 p hp
    · rw [List.map_append, h2, List.map_cons, numT]
      congr 1
      rw [List.map_map, List.map_map]; rfl
theorem numT_len : ∀ (ls : List (List Tok)) (i : Nat), (numT ls i).length = (ls.map (·.length)).sum
  | [], _ => rfl
  | l :: ls, i => by rw [numT, List.length_append, List.length_map, numT_len ls, List.map_cons, List.sum_cons]
theorem sum_le {ls : List (List Tok)} {b : Nat} (h : ∀ l ∈ ls, l.length ≤ b) : (ls.map (·.length)).sum ≤ b * ls.length := by
  induction ls with
  | nil => simp
  | cons l ls ih =>
    have h1 := h l (by simp)
    have h2 := ih fun m hm => h m (by simp [hm])
    rw [List.map_cons, List.sum_cons, List.length_cons, Nat.mul_succ]; omega
/-- Written lines are read as the lines. -/
theorem tokens_lines {ls : List (Nat × List Tok)} (hf : ∀ x ∈ ls, fineT x.2 = true) (hl : (linesX ls).length ≤ 65536) (hn : (ls.map fun x => x.2.length).sum ≤ 8192) : tokensL (linesX ls) = (numT (ls.map (·.2)) 1, 0, 0) := by
  obtain ⟨h1, h2⟩ := allY_back ls 1 hf
  have hlen : (allY (ls.map (fun x => lineX x.1 x.2) ++ [[]]) 1).length ≤ 8192 := by
    have h3 : ((allY (ls.map (fun x => lineX x.1 x.2) ++ [[]]) 1).map (·.1)).length = (ls.map fun x => x.2.length).sum := by
      rw [h2, numT_len, List.map_map]; rfl
    rw [List.length_map] at h3
    omega
  rw [tokensL, if_neg (by omega), linesX_lines ls hf, outY_none _ 0 h1 (by omega), h2]
/-- The text of tokens is read as the tokens. -/
theorem tokens_back {l : List Tok} (hf : fineT l = true) (hl : (joinT l).length ≤ 256) : tokensL (joinT l) = (l.map (fun t => { t with line := 1 }), 0, 0) := by
  have hy : yieldsL (joinT l) = l.map fun t => (line0 t, true) := by
    have := yields_back l none 0 hf
    rwa [List.replicate_zero, List.nil_append] at this
  have hls : linesL (joinT l) = [joinT l] := by rw [linesL, splitBy_no 10 _ (show (10 : UInt8) ∉ joinT l from joinR_no hf)]; rfl
  have ha : allY [joinT l] 1 = l.map fun t => ({ t with line := 1 }, true, 1) := by
    rw [allY, allY, hy, List.append_nil, List.map_map]; rfl
  rw [tokens_small (by omega), hls, ha, errY_none (fun p hp => by obtain ⟨t, _, rfl⟩ := List.mem_map.1 hp; rfl)]
  simp only [List.map_map]
  rfl
theorem join_long {l : List Tok} (hf : fineT l = true) (hl : 256 < (joinT l).length) : 7 < l.length := by
  have := (joinR_len l none hf).2
  unfold joinT at hl; omega

/-- A token that is read is valid. -/
theorem letter_name {w : List UInt8} (h : nameB w = true) (li : Int) : mayT ⟨1, li, w, 0⟩ = true := by
  show (decide ((0 : Int) = 0) && nameB w) = true
  rw [h]; rfl
theorem symN_take (s : List UInt8) (h : symN s ≠ 0) : symB (s.take (symN s)) = true := by
  match s with
  | [] => exact absurd rfl h
  | [a] =>
    simp only [symN] at h ⊢
    split at h
    · rename_i ha
      simp [symB, symN, ha]
    · exact absurd rfl h
  | a :: b :: r =>
    simp only [symN] at h ⊢
    split at h
    · rename_i hab
      simp [symB, symN, hab]
    · rename_i hab
      split at h
      · rename_i ha
        rw [if_neg hab, if_pos ha]
        simp [symB, symN, ha]
      · exact absurd rfl h
theorem first_may {s : List UInt8} (h : (firstT s).2 ≠ 0) (li : Int) : mayT { (firstT s).1 with line := li } = true := by
  match s with
  | [] => exact absurd rfl h
  | c :: r =>
    unfold firstT at h ⊢
    dsimp only at h ⊢
    split at h
    · rename_i hc
      rw [if_pos hc]
      split at h
      · rename_i hk
        rw [if_pos hk]
        show (decide ((0 : Int) = 0) && keyB (wordL (c :: r))) = true
        rw [hk]; rfl
      · rename_i hk
        split at h
        · rename_i hn
          rw [if_neg hk, if_pos hn]
          exact letter_name hn li
        · exact absurd rfl h
    · rename_i hc
      rw [if_neg hc]
      split at h
      · rename_i hd
        rw [if_pos hd]
        split at h
        · rename_i v hv
          unfold intV at hv
          split at hv
          · rename_i hh
            cases hv
            show (decide ((3 : Int) = 3) && decide (([] : List UInt8) = []) && decide ((0 : Int) ≤ (decV (wordL (c :: r)) : Int)) && decide ((decV (wordL (c :: r)) : Int) ≤ 2147483647)) = true
            rw [decide_eq_true (show (0 : Int) ≤ (decV (wordL (c :: r)) : Int) by omega), decide_eq_true (show (decV (wordL (c :: r)) : Int) ≤ 2147483647 by omega)]; rfl
          · cases hv
        · exact absurd rfl h
      · rename_i hd
        rw [if_neg hd]
        show (decide ((0 : Int) = 0) && symB ((c :: r).take (symN (c :: r)))) = true
        rw [symN_take _ h]; rfl
theorem yields_may : ∀ s : List UInt8, ∀ p ∈ yieldsL s, p.2 = true → ∀ li : Int, mayT { p.1 with line := li } = true :=
  yield_ind fun s ih p hp h2 li => by
    rw [yieldsL_eq] at hp
    split at hp
    · split at hp
      · cases hp
      · rw [List.mem_singleton] at hp; subst hp; cases h2
    · rename_i hc
      split at hp
      · rw [List.mem_singleton] at hp; subst hp; cases h2
      · rename_i h0
        rcases List.mem_cons.1 hp with rfl | hp
        · exact first_may h0 li
        · exact ih h0 (fun e => hc (.inl e)) p hp h2 li
end Go.Dl

-- Chapter 2: tokens: the plain laws, part 6: numbers; a text again.
namespace Go.Dl
open Go
set_option maxRecDepth 10000

theorem first_dig {w r : List UInt8} {c : UInt8} (hd : (c :: w).all digitB = true) (hr : r = [] ∨ ∃ c' r', r = c' :: r' ∧ wordB c' = false) :
    firstT (c :: w ++ r) = match intV (c :: w) with | some v => (⟨3, 0, [], v⟩, (c :: w).length) | none => (tok0, 0) := by
  have hw := word_head (w := c :: w) (List.all_eq_true.2 fun x hx => digit_word (List.all_eq_true.1 hd x hx)) hr
  have hc : digitB c = true := List.all_eq_true.1 hd c (by simp)
  show (if letterB c then _ else if digitB c then _ else _) = _
  rw [digit_letter hc, hc, hw]
  rfl
theorem trim_ne {c : UInt8} (r : List UInt8) (h : c ≠ 32) : trimL (c :: r) = c :: r := by
  unfold trimL
  rw [List.dropWhile_cons, beq_eq_false_iff_ne.2 h]; rfl
theorem com_ne {c : UInt8} (r : List UInt8) (h : c ≠ 45) : isCom (c :: r) = false := by
  unfold isCom
  split
  · rename_i e; simp at e; exact absurd e.1 h
  · rfl
theorem yields_step {c : UInt8} {r : List UInt8} (h32 : c ≠ 32) (hc : isCom (c :: r) = false) : yieldsL (c :: r) = if (firstT (c :: r)).2 = 0 then [((firstT (c :: r)).1, false)] else ((firstT (c :: r)).1, true) :: yieldsL ((c :: r).drop (firstT (c :: r)).2) := by
  rw [yieldsL_eq, trim_ne r h32, if_neg (fun h => h.elim (by simp) (fun h => by rw [hc] at h; cases h))]
theorem digit_ne {c : UInt8} (h : digitB c = true) : c ≠ 32 ∧ c ≠ 45 := ⟨fun e => (by subst e; cases h), fun e => (by subst e; cases h)⟩
/-- A number, and what stands behind it. -/
theorem yields_num {w r : List UInt8} {v : Nat} (hv : intV w = some v) (hne : w ≠ []) (hr : r = [] ∨ ∃ c' r', r = c' :: r' ∧ wordB c' = false) : yieldsL (w ++ r) = (⟨3, 0, [], v⟩, true) :: yieldsL r := by
  match w, hne with
  | [], hne => exact absurd rfl hne
  | c :: w, _ =>
    have hd : (c :: w).all digitB = true := by
      unfold intV at hv
      split at hv
      · rename_i h; exact h.2.1
      · cases hv
    have hc : digitB c = true := List.all_eq_true.1 hd c (by simp)
    have hf := first_dig hd hr
    rw [hv] at hf
    dsimp only at hf
    change firstT (c :: (w ++ r)) = _ at hf
    have e : c :: (w ++ r) = (c :: w) ++ r := rfl
    rw [List.cons_append, yields_step (digit_ne hc).1 (com_ne _ (digit_ne hc).2), hf]
    dsimp only
    rw [if_neg (by simp), e, List.drop_left]
/-- What begins with a digit and is no number, is an error. -/
theorem yields_bad {c : UInt8} {w : List UInt8} (hc : digitB c = true) (hw : (c :: w).all wordB = true) (hv : intV (c :: w) = none) : yieldsL (c :: w) = [(tok0, false)] := by
  have h := take_all _ hw
  have hf : firstT (c :: w) = (tok0, 0) := by
    show (if letterB c then _ else if digitB c then _ else _) = _
    rw [digit_letter hc, hc, h, hv]; rfl
  rw [yields_step (digit_ne hc).1 (com_ne _ (digit_ne hc).2), hf]; rfl
theorem decV_zeros (w : List UInt8) : ∀ z, decV (List.replicate z 48 ++ w) = decV w
  | 0 => by simp
  | z + 1 => by
    rw [List.replicate_succ, List.cons_append]
    show List.foldl _ (10 * 0 + ((48 : UInt8).toNat - 48)) (List.replicate z 48 ++ w) = _
    exact decV_zeros w z
/-- The digits of n with z zeros ahead. -/
def zdig (z n : Nat) : List UInt8 := List.replicate z 48 ++ Lib.decDigits n
theorem zdig_dig (z n : Nat) : ∀ b ∈ zdig z n, digitB b = true := fun b hb => by
  rcases List.mem_append.1 hb with hb | hb
  · have := (List.mem_replicate.1 hb).2; subst this; rfl
  · exact dec_dig n b hb
theorem zdig_cons (z n : Nat) : ∃ c r, zdig z n = c :: r ∧ digitB c = true := by
  have h := zdig_dig z n
  have hne : zdig z n ≠ [] := fun e => by
    obtain ⟨c, r, e2, _⟩ := dec_cons n
    unfold zdig at e
    rw [e2] at e; simp at e
  match hd : zdig z n, hne with
  | [], hne => exact absurd rfl hne
  | c :: r, _ => rw [hd] at h; exact ⟨c, r, rfl, h c (by simp)⟩
theorem zdig_len (z n : Nat) (h : n < 4294967296) : (zdig z n).length ≤ z + 10 := by
  rw [zdig, List.length_append, List.length_replicate, Lib.decDigits_length]
  have := nDigits_le 9 n (by omega)
  omega
theorem zdig_some {z n : Nat} (h : n ≤ 2147483647) (hl : (zdig z n).length ≤ 10) : intV (zdig z n) = some n := by
  have hv : decV (zdig z n) = n := by rw [zdig, decV_zeros, decV_dec]
  rw [intV, if_pos ⟨hl, List.all_eq_true.2 (zdig_dig z n), by rw [hv]; exact h⟩, hv]
theorem zdig_none {z n : Nat} (h : 2147483647 < n ∨ 10 < (zdig z n).length) : intV (zdig z n) = none := by
  have hv : decV (zdig z n) = n := by rw [zdig, decV_zeros, decV_dec]
  rw [intV, if_neg]
  rintro ⟨h1, _, h3⟩
  rw [hv] at h3
  omega
theorem bad_tail {w : List UInt8} {x : UInt8} (hx : digitB x = false) : intV (w ++ [x]) = none := by
  rw [intV, if_neg]
  rintro ⟨_, h2, _⟩
  rw [List.all_append, Bool.and_eq_true] at h2
  have := h2.2
  rw [List.all_cons, Bool.and_eq_true, hx] at this
  cases this.1
theorem no10_word {w : List UInt8} (h : ∀ b ∈ w, wordB b = true ∨ b = 46 ∨ b = 43) : (10 : UInt8) ∉ w := fun hm => by
  rcases h 10 hm with h | h | h
  · cases h
  · exact absurd h (by decide)
  · exact absurd h (by decide)
/-- A text of one line. -/
theorem tokens_line {s : List UInt8} (h10 : (10 : UInt8) ∉ s) (hs : s.length ≤ 8000) : tokensL s = match errY ((yieldsL s).map fun p => ({ p.1 with line := 1 }, p.2, 1)) with
    | some e => ([], e.1, e.2)
    | none => ((yieldsL s).map fun p => { p.1 with line := 1 }, 0, 0) := by
  have hls : linesL s = [s] := by rw [linesL, splitBy_no 10 _ h10]; rfl
  have ha : allY [s] 1 = (yieldsL s).map fun p => ({ p.1 with line := 1 }, p.2, 1) := by
    rw [allY, allY, List.append_nil]; rfl
  rw [tokens_small (by omega), hls, ha]
  cases errY ((yieldsL s).map fun p => ({ p.1 with line := 1 }, p.2, 1)) with
  | some e => rfl
  | none => dsimp only; rw [List.map_map]; rfl
/-- A text of one line that has no error. -/
theorem tokens_good {s : List UInt8} {l : List Tok} (h10 : (10 : UInt8) ∉ s) (hs : s.length ≤ 8000) (hy : yieldsL s = l.map fun t => (t, true)) : tokensL s = (l.map fun t => { t with line := 1 }, 0, 0) := by
  rw [tokens_line h10 hs, hy, errY_none (fun p hp => by
    rw [List.map_map] at hp
    obtain ⟨t, _, rfl⟩ := List.mem_map.1 hp; rfl)]
  dsimp only
  rw [List.map_map]; rfl
theorem tokens_fail {s : List UInt8} {t : Tok} (h10 : (10 : UInt8) ∉ s) (hs : s.length ≤ 8000) (hy : yieldsL s = [(t, false)]) : tokensL s = ([], 1, 20) := by
  rw [tokens_line h10 hs, hy]; rfl
def intT (n : Int) : Tok := ⟨3, 0, [], n⟩
def symT (s : List UInt8) : Tok := ⟨4, 0, s, 0⟩

/-- The tokens of a text without an error, line by line. -/
def toksL (s : List UInt8) : List Tok := (yieldsL s).map fun p => line0 p.1
theorem allY_num : ∀ (ls : List (List UInt8)) (i : Nat), (allY ls i).map (·.1) = numT (ls.map toksL) i
  | [], _ => rfl
  | s :: ls, i => by
    rw [allY, List.map_append, allY_num ls, List.map_cons, numT]
    congr 1
    rw [toksL, List.map_map, List.map_map]; rfl
theorem allY_ok {ls : List (List UInt8)} {i : Nat} (h : ∀ p ∈ allY ls i, p.2.1 = true) : ∀ s ∈ ls, ∀ p ∈ yieldsL s, p.2 = true := by
  induction ls generalizing i with
  | nil => intro s hs; cases hs
  | cons s ls ih =>
    rw [allY] at h
    intro s' hs p hp
    rcases List.mem_cons.1 hs with rfl | hs
    · exact h (_, p.2, (i : Int)) (List.mem_append_left _ (List.mem_map.2 ⟨p, hp, rfl⟩))
    · exact ih (fun q hq => h q (List.mem_append_right _ hq)) s' hs p hp
theorem errY_ok {y : List (Tok × Bool × Int)} (h : errY y = none) : ∀ p ∈ y, p.2.1 = true := fun p hp => by
  rw [errY, Option.map_eq_none_iff, List.find?_eq_none] at h
  have := h p hp
  simpa using this
theorem toks_fine {s : List UInt8} (h : ∀ p ∈ yieldsL s, p.2 = true) : fineT (toksL s) = true := by
  refine List.all_eq_true.2 fun t ht => ?_
  obtain ⟨p, hp, rfl⟩ := List.mem_map.1 ht
  exact yields_may s p hp (h p hp) 0
theorem sum_toks : ∀ (ls : List (List UInt8)), (∀ s ∈ ls, ∀ p ∈ yieldsL s, p.2 = true) → ((ls.map toksL).map (·.length)).sum + ls.length ≤ sumLen ls
  | [], _ => Nat.le_refl _
  | s :: ls, h => by
    have h1 := yields_ok_len s (h s (by simp))
    have h2 := sum_toks ls fun u hu => h u (by simp [hu])
    have h3 : (toksL s).length = (yieldsL s).length := by simp [toksL]
    simp only [sumLen, List.map_cons, List.sum_cons, List.length_cons] at h2 ⊢
    omega
/-- A text again: its tokens, written line by line, are the same tokens at the same lines. -/
theorem tokens_again {src : List UInt8} (hs : src.length ≤ 3000) (h : (tokensL src).2.2 = 0) : ∃ Ls : List (List Tok), Ls.length = (linesL src).length ∧ (∀ l ∈ Ls, fineT l = true) ∧ tokensL src = (numT Ls 1, 0, 0) ∧ (Ls.map (·.length)).sum ≤ 3000 := by
  rw [tokens_small (by omega)] at h ⊢
  cases he : errY (allY (linesL src) 1) with
  | some e =>
    rw [he] at h
    have := errY_kind he
    dsimp only at h
    omega
  | none =>
    have hok := allY_ok (errY_ok he)
    refine ⟨(linesL src).map toksL, by simp, fun l hl => ?_, ?_, ?_⟩
    · obtain ⟨s, hm, rfl⟩ := List.mem_map.1 hl
      exact toks_fine (hok s hm)
    · dsimp only
      rw [allY_num]
    · have h1 := sum_toks _ hok
      have h2 : sumLen (linesL src) = src.length + 0 + 1 := splitBy_sum 10 src []
      have h3 : 0 < (linesL src).length := List.length_pos_iff.2 (splitBy_ne _ _ _)
      omega
end Go.Dl

-- Chapter 2: tokens: the plain laws, part 7: what the library's functions say of symbols, spaces, comments.
namespace Go.Dl
open Go
set_option maxRecDepth 10000

theorem contains_any (s sub : List UInt8) : Lib.contains s sub = (List.range (s.length + 1)).any fun i => Lib.occAt s sub i := by
  cases h : (List.range (s.length + 1)).any fun i => Lib.occAt s sub i with
  | false =>
    have hn : ∀ j, j ≤ s.length → Lib.occAt s sub j = false := fun j hj => by
      rw [List.any_eq_false] at h
      simpa using h j (List.mem_range.2 (by omega))
    rw [Lib.contains, Lib.index_none hn]; rfl
  | true =>
    rw [List.any_eq_true] at h
    obtain ⟨i, hi, ho⟩ := h
    have hi' : i ≤ s.length := by have := List.mem_range.1 hi; omega
    -- the first such place
    have key : ∀ n, (∃ i, i < n ∧ i ≤ s.length ∧ Lib.occAt s sub i = true) → ∃ i, i ≤ s.length ∧ Lib.occAt s sub i = true ∧ ∀ j, j < i → Lib.occAt s sub j = false := by
      intro n
      induction n with
      | zero => rintro ⟨i, h, _⟩; omega
      | succ n ih =>
        rintro ⟨i, h1, h2, h3⟩
        by_cases hb : ∃ i, i < n ∧ i ≤ s.length ∧ Lib.occAt s sub i = true
        · exact ih hb
        · refine ⟨i, h2, h3, fun j hj => ?_⟩
          cases hjo : Lib.occAt s sub j with
          | false => rfl
          | true => exact absurd ⟨j, by omega, by omega, hjo⟩ hb
    obtain ⟨i, h1, h2, h3⟩ := key (i + 1) ⟨i, by omega, hi', ho⟩
    rw [Lib.contains, Lib.index_first h1 h2 h3]
    exact decide_eq_true (by omega)
def symsLit : List UInt8 := [32, 61, 62, 32, 46, 46, 32, 58, 61, 32, 47, 61, 32, 60, 61, 32, 62, 61, 32, 60, 62, 32]
theorem contains_sym (a b : UInt8) : Lib.contains symsLit [32, a, b, 32] = decide ((a, b) ∈ syms2) := by
  rw [contains_any]
  have hr : List.range (symsLit.length + 1) = [0, 1, 2, 3, 4, 5, 6, 7, 8, 9, 10, 11, 12, 13, 14, 15, 16, 17, 18, 19, 20, 21, 22] := by decide
  rw [hr]
  simp only [Lib.occAt, symsLit, List.any_cons, List.any_nil, List.drop_zero, List.drop_succ_cons, List.drop_nil, List.isPrefixOf, syms2, List.mem_cons, Prod.mk.injEq, List.not_mem_nil, or_false]
  simp [Bool.decide_or, Bool.decide_and]
  rfl
theorem index_mem (l : List UInt8) (c : UInt8) : decide (0 ≤ Lib.indexByte l c) = decide (c ∈ l) := by
  rw [← Lib.contains_iff_indexByte]
  simp
theorem trim_lib (s : List UInt8) : Lib.trimLeftB s 32 = trimL s := rfl
theorem com_lib (s : List UInt8) : Lib.hasPrefix s [45, 45] = isCom s := by
  match s with
  | [] => rfl
  | [a] => unfold isCom; split
           · rename_i h; simp at h
           · simp [Lib.hasPrefix, List.isPrefixOf]
  | a :: b :: s =>
    by_cases h : a = 45 ∧ b = 45
    · obtain ⟨rfl, rfl⟩ := h; rfl
    · have e : isCom (a :: b :: s) = false := by
        unfold isCom
        split
        · rename_i h2; simp at h2; exact absurd ⟨h2.1, h2.2.1⟩ h
        · rfl
      rw [e]
      simp only [Lib.hasPrefix, List.isPrefixOf, Bool.and_true]
      rw [Bool.and_eq_false_iff, beq_eq_false_iff_ne, beq_eq_false_iff_ne]
      by_cases h1 : a = 45
      · exact .inr fun e => h ⟨h1, e.symm⟩
      · exact .inl fun e => h1 e.symm
theorem repeat_sp : ∀ d : Nat, Lib.repeatL [32, 32] d = List.replicate (2 * d) 32
  | 0 => rfl
  | d + 1 => by
    rw [Lib.repeatL, repeat_sp d, show 2 * (d + 1) = 2 * d + 1 + 1 by omega, List.replicate_succ, List.replicate_succ]; rfl

theorem less_irr : ∀ a : List UInt8, Go.Op.bytesLess a a = false
  | [] => rfl
  | x :: a => by
    unfold Go.Op.bytesLess
    simp [less_irr a]
theorem less_asym : ∀ a b : List UInt8, Go.Op.bytesLess a b = true → Go.Op.bytesLess b a = false
  | [], [], h => rfl
  | [], _ :: _, _ => rfl
  | _ :: _, [], h => by cases h
  | x :: a, y :: b, h => by
    unfold Go.Op.bytesLess at h ⊢
    by_cases e : x = y
    · subst e
      simp only [UInt8.lt_irrefl] at h ⊢
      simp at h ⊢
      exact less_asym a b h
    · have hn : y ≠ x := fun h => e h.symm
      simp [e, hn] at h ⊢
      exact UInt8.le_of_lt h
theorem keys_sorted : keysL.Pairwise (fun a b => Go.Op.bytesLess a b = true) := by decide +kernel
/-- What a search for s by halves keeps. -/
structure halfAt (l : List (List UInt8)) (s : List UInt8) (i j : Nat) : Prop where
  le : i ≤ j
  len : j ≤ l.length
  lo : ∀ k w, k < i → l[k]? = some w → w ≠ s
  hi : ∀ k w, j < k → l[k]? = some w → w ≠ s
theorem half_start (l : List (List UInt8)) (s : List UInt8) : halfAt l s 0 l.length :=
  ⟨Nat.zero_le _, Nat.le_refl _, fun _ _ h => by omega, fun k w h hk => by rw [List.getElem?_eq_none (by omega)] at hk; cases hk⟩
theorem half_lt {l : List (List UInt8)} {a : Nat} {b : Nat} {u v : List UInt8} (hl : l.Pairwise fun a b => Go.Op.bytesLess a b = true) (h : a < b) (ha : l[a]? = some u) (hb : l[b]? = some v) : Go.Op.bytesLess u v = true := by
  obtain ⟨h1, rfl⟩ := List.getElem?_eq_some_iff.1 ha
  obtain ⟨h2, rfl⟩ := List.getElem?_eq_some_iff.1 hb
  exact List.pairwise_iff_getElem.1 hl a b h1 h2 h
theorem half_up {l : List (List UInt8)} {s w : List UInt8} {i j h : Nat} (hl : l.Pairwise fun a b => Go.Op.bytesLess a b = true) (hk : halfAt l s i j) (h2 : h < j) (hw : l[h]? = some w) (hlt : Go.Op.bytesLess w s = true) : halfAt l s (h + 1) j := by
  obtain ⟨k1, k2, k3, k4⟩ := hk
  refine ⟨by omega, k2, fun k u hku hu e => ?_, k4⟩
  subst e
  rcases Nat.lt_or_ge k h with hlt' | hge
  · have := half_lt hl hlt' hu hw
    rw [less_asym _ _ this] at hlt; cases hlt
  · have : k = h := by omega
    subst this
    rw [hw] at hu; cases hu
    rw [less_irr] at hlt; cases hlt
theorem half_down {l : List (List UInt8)} {s w : List UInt8} {i j h : Nat} (hl : l.Pairwise fun a b => Go.Op.bytesLess a b = true) (hk : halfAt l s i j) (h1 : i ≤ h) (h2 : h < j) (hw : l[h]? = some w) (hlt : Go.Op.bytesLess w s = false) : halfAt l s i h := by
  obtain ⟨k1, k2, k3, k4⟩ := hk
  refine ⟨h1, by omega, k3, fun k u hku hu e => ?_⟩
  subst e
  rw [half_lt hl hku hw hu] at hlt; cases hlt
theorem half_end {l : List (List UInt8)} {s : List UInt8} {i : Nat} (hk : halfAt l s i i) : decide (s ∈ l) = decide (l[i]? = some s) := by
  obtain ⟨_, _, k3, k4⟩ := hk
  refine decide_eq_decide.2 ⟨fun h => ?_, fun h => List.mem_of_getElem? h⟩
  obtain ⟨k, hk⟩ := List.mem_iff_getElem?.1 h
  rcases Nat.lt_trichotomy k i with h1 | h1 | h1
  · exact absurd rfl (k3 k s h1 hk)
  · rw [← h1]; exact hk
  · exact absurd rfl (k4 k s h1 hk)
end Go.Dl

-- Chapter 2: tokens: the plain laws, part 8: a text read byte by byte, as the reference does.
namespace Go.Dl
open Go
set_option maxRecDepth 10000

/-- What comes of the rest s of a text, at a line, behind the tokens l. -/
def restR (s : List UInt8) (line : Nat) (l : List Tok) : List Tok × Int × Int :=
  match outY (allY (linesL s) line) l.length with
  | some e => ([], e.1, e.2)
  | none => (l ++ (allY (linesL s) line).map (·.1), 0, 0)
theorem tokens_rest {s : List UInt8} (h : s.length ≤ 65536) : tokensL s = restR s 1 [] := by
  rw [tokensL, if_neg (by omega), restR, List.length_nil]
  cases outY (allY (linesL s) 1) 0 with
  | some e => rfl
  | none => rfl
theorem rest_nil (line : Nat) (l : List Tok) : restR [] line l = (l, 0, 0) := by
  have e : allY (linesL []) line = [] := rfl
  rw [restR, e]
  show (l ++ [], (0 : Int), (0 : Int)) = _
  rw [List.append_nil]
theorem rest_lf (r : List UInt8) (line : Nat) (l : List Tok) : restR (10 :: r) line l = restR r (line + 1) l := by
  have e : allY (linesL (10 :: r)) line = allY (linesL r) (line + 1) := by
    rw [linesL, splitBy, if_pos rfl, allY]; rfl
  rw [restR, restR, e]
theorem splitBy_cur (c : UInt8) : ∀ (s cur : List UInt8), ∃ h t, splitBy c s [] = h :: t ∧ splitBy c s cur = (cur ++ h) :: t
  | [], cur => ⟨[], [], rfl, by simp [splitBy]⟩
  | x :: s, cur => by
    rw [splitBy, splitBy]
    split
    · exact ⟨[], _, rfl, by simp⟩
    · obtain ⟨h, t, e1, e2⟩ := splitBy_cur c s [x]
      obtain ⟨h', t', e3, e4⟩ := splitBy_cur c s (cur ++ [x])
      rw [e1] at e3; cases e3
      exact ⟨x :: h, t, by rw [List.nil_append, e2]; rfl, by rw [e4]; simp⟩
theorem lines_cons {c : UInt8} (r : List UInt8) (hc : c ≠ 10) : ∃ h t, linesL r = h :: t ∧ linesL (c :: r) = (c :: h) :: t := by
  obtain ⟨h, t, e1, e2⟩ := splitBy_cur 10 r [c]
  exact ⟨h, t, e1, by rw [linesL, splitBy, if_neg hc, List.nil_append, e2]; rfl⟩
theorem lines_parts {s h : List UInt8} {t : List (List UInt8)} (e : linesL s = h :: t) : (10 : UInt8) ∉ h ∧ ((t = [] ∧ s = h) ∨ (t ≠ [] ∧ s = h ++ 10 :: joinL t)) ∧ ∀ n, n ≤ h.length → linesL (s.drop n) = h.drop n :: t := by
  have hm : ∀ w ∈ linesL s, (10 : UInt8) ∉ w := fun w hw => splitBy_mem 10 s [] w (by simp) hw
  have hj : joinL (linesL s) = s := by rw [linesL, join_lines]; rfl
  rw [e] at hm hj
  have h10 := hm h (by simp)
  have hd : ∀ n, (10 : UInt8) ∉ h.drop n := fun n hx => h10 (List.mem_of_mem_drop hx)
  match t with
  | [] =>
    have hs : h = s := hj
    subst hs
    exact ⟨h10, .inl ⟨rfl, rfl⟩, fun n hn => by rw [linesL, splitBy_no 10 _ (hd n)]; rfl⟩
  | u :: t =>
    have hs : h ++ 10 :: joinL (u :: t) = s := hj
    subst hs
    refine ⟨h10, .inr ⟨by simp, rfl⟩, fun n hn => ?_⟩
    rw [List.drop_append_of_le_length hn, linesL, splitBy_at 10 _ _ (hd n)]
    have := lines_join (u :: t) (by simp) fun w hw => hm w (List.mem_cons_of_mem _ hw)
    rw [linesL] at this
    rw [this]; rfl
theorem rest_sp (r : List UInt8) (line : Nat) (l : List Tok) : restR (32 :: r) line l = restR r line l := by
  obtain ⟨h, t, e1, e2⟩ := lines_cons (c := 32) r (by decide)
  have ey : yieldsL (32 :: h) = yieldsL h := by
    have ht : trimL (32 :: h) = trimL h := rfl
    rw [yieldsL_eq (32 :: h), yieldsL_eq h, ht]
  have e : allY (linesL (32 :: r)) line = allY (linesL r) line := by rw [e1, e2, allY, allY, ey]
  rw [restR, restR, e]
theorem sym_lf (s r : List UInt8) (h : s ≠ []) : symN (s ++ 10 :: r) = symN s := by
  match s, h with
  | [], h => exact absurd rfl h
  | [a], _ =>
    have : (a, (10 : UInt8)) ∉ syms2 := by simp [syms2]
    simp only [List.cons_append, List.nil_append, symN, if_neg this]
  | a :: b :: s, _ => rfl
theorem first_lf (s r : List UInt8) (h : s ≠ []) : firstT (s ++ 10 :: r) = firstT s := by
  have hw : wordL (s ++ 10 :: r) = wordL s := word_app s r 10 rfl
  have hs := sym_lf s r h
  have ht : (s ++ 10 :: r).take (symN s) = s.take (symN s) := List.take_append_of_le_length (sym_le s)
  match s, h with
  | [], h => exact absurd rfl h
  | c :: s, _ =>
    unfold firstT
    rw [List.cons_append] at hw hs ht ⊢
    dsimp only
    rw [hw, hs, ht]
/-- A token, or an error. -/
theorem rest_tok {c : UInt8} {r : List UInt8} (line : Nat) (l : List Tok) (h10 : c ≠ 10) (h32 : c ≠ 32) (hcom : isCom (c :: r) = false) :
    restR (c :: r) line l = if (firstT (c :: r)).2 = 0 then ([], (line : Int), 20) else if l.length = 8192 then ([], (line : Int), 3)
      else restR ((c :: r).drop (firstT (c :: r)).2) line (l ++ [{ (firstT (c :: r)).1 with line := (line : Int) }]) := by
  obtain ⟨h, t, e1, e2⟩ := lines_cons r h10
  obtain ⟨_, hp, hdrop⟩ := lines_parts e2
  have hf : firstT (c :: r) = firstT (c :: h) := by
    rcases hp with ⟨_, hs⟩ | ⟨_, hs⟩
    · rw [hs]
    · rw [hs, first_lf _ _ (by simp)]
  have hc2 : isCom (c :: h) = false := by
    rcases hp with ⟨_, hs⟩ | ⟨_, hs⟩
    · rwa [hs] at hcom
    · cases hi : isCom (c :: h) with
      | false => rfl
      | true =>
        rw [hs] at hcom
        match h with
        | [] => unfold isCom at hi; split at hi <;> simp_all
        | d :: h' =>
          by_cases hh : c = 45 ∧ d = 45
          · obtain ⟨rfl, rfl⟩ := hh
            exact absurd hcom (by simp [isCom])
          · unfold isCom at hi
            split at hi
            · rename_i h45; simp at h45; exact absurd ⟨h45.1, h45.2.1⟩ hh
            · cases hi
  have hle : (firstT (c :: h)).2 ≤ (c :: h).length := first_le _
  have hys := yields_step h32 hc2
  rw [hf, restR, e2, allY, hys]
  by_cases h0 : (firstT (c :: h)).2 = 0
  · rw [if_pos h0, if_pos h0, List.map_cons, List.cons_append, outY, if_pos rfl]
  · rw [if_neg h0, if_neg h0, List.map_cons, List.cons_append, outY, if_neg (by simp)]
    by_cases h8 : l.length = 8192
    · rw [if_pos h8, if_pos h8]
    · rw [if_neg h8, if_neg h8]
      have hd := hdrop _ hle
      rw [restR, hd, allY, List.length_append, List.length_singleton]
      split
      · rfl
      · simp
/-- A comment: up to its line's end, or to a byte that is not allowed. -/
theorem rest_com (r : List UInt8) (line : Nat) (l : List Tok) : ∃ h t, linesL (45 :: 45 :: r) = h :: t ∧ (plainB h = false → restR (45 :: 45 :: r) line l = ([], (line : Int), 20)) ∧
    (plainB h = true → restR (45 :: 45 :: r) line l = restR ((45 :: 45 :: r).drop h.length) line l) := by
  obtain ⟨h1, t, e1, e2⟩ := lines_cons (c := 45) r (by decide)
  obtain ⟨h2, t2, e3, e4⟩ := lines_cons (c := 45) (45 :: r) (by decide)
  rw [e2] at e3; cases e3
  obtain ⟨_, _, hdrop⟩ := lines_parts e4
  have hy : yieldsL (45 :: 45 :: h1) = if plainB (45 :: 45 :: h1) then [] else [(tok0, false)] := by
    have ht : trimL (45 :: 45 :: h1) = 45 :: 45 :: h1 := rfl
    rw [yieldsL_eq, ht, if_pos (.inr rfl)]
  refine ⟨_, t, e4, fun hp => ?_, fun hp => ?_⟩
  · rw [restR, e4, allY, hy, hp, if_neg (by simp), List.map_cons, List.cons_append, outY, if_pos rfl]
  · have hd := hdrop _ (Nat.le_refl _)
    rw [restR, restR, hd, e4, allY, allY, hy, hp, List.drop_length]
    rfl
end Go.Dl

-- Rows of the call's own: a list of lists of ints, each in a block of its own.
namespace Go.Dl
open Go

/-- v is nil (an empty list), or a slice of the call's own with the ints l, whatever lies ahead of and behind it in its block. -/
def OwnV (e : TypeId) (H : DHeap) (l : List Int) (v : DVal) (H' : DHeap) : Prop :=
  (l = [] ∧ v = .nilSlice ∧ H' = H) ∨ ∃ r pre lo rest, H r = none ∧ v = .oslice 1 r pre.length l.length lo ∧ l.length + rest.length = lo ∧ H' = upd H r (some (.cells (pre ++ (l.map dI ++ rest)) e))

def OwnRows (e : TypeId) (H : DHeap) : List (List Int) → List DVal → DHeap → Prop
  | [], vs, H' => vs = [] ∧ H' = H
  | l :: q, vs, H' => ∃ v vs' H1, vs = v :: vs' ∧ OwnRows e H q vs' H1 ∧ OwnV e H1 l v H'

/-- Two slices of the call's own, told in the other order. -/
theorem OwnV.swap {e : TypeId} {H H1 H2 : DHeap} {l m : List Int} {v u : DVal} (h : OwnV e H l v H1) (k : OwnV e H1 m u H2) : ∃ H1', OwnV e H m u H1' ∧ OwnV e H1' l v H2 := by
  rcases h with ⟨rfl, rfl, rfl⟩ | ⟨r, pre, lo, rest, hr, rfl, hlo, rfl⟩
  · exact ⟨H2, k, .inl ⟨rfl, rfl, rfl⟩⟩
  · rcases k with ⟨rfl, rfl, rfl⟩ | ⟨r', pre', lo', rest', hr', rfl, hlo', rfl⟩
    · exact ⟨H, .inl ⟨rfl, rfl, rfl⟩, .inr ⟨r, pre, lo, rest, hr, rfl, hlo, rfl⟩⟩
    · rw [upd_eq_none] at hr'
      exact ⟨_, .inr ⟨r', pre', lo', rest', hr'.2.2, rfl, hlo', rfl⟩, .inr ⟨r, pre, lo, rest, by simp [upd, hr', hr], rfl, hlo, upd_swap hr'.1 _ _ _⟩⟩

theorem OwnRows.len {e : TypeId} {H : DHeap} : ∀ {q : List (List Int)} {vs : List DVal} {H' : DHeap}, OwnRows e H q vs H' → vs.length = q.length
  | [], _, _, h => by rw [h.1]; rfl
  | l :: q, vs, H', h => by
    obtain ⟨v, vs', H1, rfl, h1, _⟩ := h
    simp [h1.len]

/-- **ROW i IS TAKEN OUT**, and whatever row is put in its place. -/
theorem OwnRows.focus {e : TypeId} {H : DHeap} : ∀ {q : List (List Int)} {vs : List DVal} {H' : DHeap}, OwnRows e H q vs H' → ∀ (i : Nat) (hi : i < q.length), ∃ v H1, vs[i]? = some v ∧ OwnV e H1 q[i] v H' ∧
    ∀ l' v' H2, OwnV e H1 l' v' H2 → OwnRows e H (q.set i l') (vs.set i v') H2
  | l :: q, vs, H', h, 0, hi => by
    obtain ⟨v, vs', H1, rfl, h1, h2⟩ := h
    exact ⟨v, H1, rfl, h2, fun l' v' H2 k => ⟨v', vs', H1, rfl, h1, k⟩⟩
  | l :: q, vs, H', h, i + 1, hi => by
    obtain ⟨v, vs', H1, rfl, h1, h2⟩ := h
    obtain ⟨u, H3, g1, g2, g3⟩ := h1.focus i (by simpa using hi)
    obtain ⟨H4, k1, k2⟩ := g2.swap h2
    refine ⟨u, H4, by simpa using g1, k2, fun l' v' H2 k => ?_⟩
    obtain ⟨H5, m1, m2⟩ := k1.swap k
    exact ⟨v, vs'.set i v', H5, rfl, g3 l' v' H5 m1, m2⟩

/-- Another block beside it. -/
theorem OwnV.frame {e : TypeId} {H H1 : DHeap} {l : List Int} {v : DVal} (h : OwnV e H l v H1) {r : Nat} (hr : H1 r = none) (o : DObj) : OwnV e (upd H r (some o)) l v (upd H1 r (some o)) ∧ H r = none := by
  rcases h with ⟨rfl, rfl, rfl⟩ | ⟨r', pre, lo, rest, hr', rfl, hlo, rfl⟩
  · exact ⟨.inl ⟨rfl, rfl, rfl⟩, hr⟩
  · rw [upd_eq_none] at hr
    exact ⟨.inr ⟨r', pre, lo, rest, by simp [upd, hr, hr'], rfl, hlo, upd_swap hr.1 _ _ _⟩, hr.2.2⟩
theorem OwnV.unframe {e : TypeId} {H H1 : DHeap} {l : List Int} {v : DVal} {r : Nat} {o : DObj} (h : OwnV e (upd H r (some o)) l v H1) (hr : H r = none) : OwnV e H l v (upd H1 r none) := by
  rcases h with ⟨rfl, rfl, rfl⟩ | ⟨r', pre, lo, rest, hr', rfl, hlo, rfl⟩
  · exact .inl ⟨rfl, rfl, upd_none_self hr _⟩
  · rw [upd_eq_none] at hr'
    exact .inr ⟨r', pre, lo, rest, hr'.2.2, rfl, hlo, by rw [upd_swap hr'.2.1, upd_none_self hr]⟩
theorem OwnRows.frame {e : TypeId} {H : DHeap} : ∀ {q : List (List Int)} {vs : List DVal} {H1 : DHeap}, OwnRows e H q vs H1 → ∀ {r : Nat}, H1 r = none → ∀ (o : DObj), OwnRows e (upd H r (some o)) q vs (upd H1 r (some o)) ∧ H r = none
  | [], vs, H1, h, r, hr, o => by
    obtain ⟨rfl, rfl⟩ := h
    exact ⟨⟨rfl, rfl⟩, hr⟩
  | l :: q, vs, H1, h, r, hr, o => by
    obtain ⟨v, vs', H2, rfl, h1, h2⟩ := h
    obtain ⟨k1, k2⟩ := h2.frame hr o
    obtain ⟨m1, m2⟩ := h1.frame k2 o
    exact ⟨⟨v, vs', _, rfl, m1, k1⟩, m2⟩
theorem OwnRows.unframe {e : TypeId} {H : DHeap} : ∀ {q : List (List Int)} {vs : List DVal} {H1 : DHeap} {r : Nat} {o : DObj}, OwnRows e (upd H r (some o)) q vs H1 → H r = none → ∃ H2, OwnRows e H q vs H2 ∧ H1 = upd H2 r (some o) ∧ H2 r = none
  | [], vs, H1, r, o, h, hr => by
    obtain ⟨rfl, rfl⟩ := h
    exact ⟨H, ⟨rfl, rfl⟩, rfl, hr⟩
  | l :: q, vs, H1, r, o, h, hr => by
    obtain ⟨v, vs', H2, rfl, h1, h2⟩ := h
    obtain ⟨H3, k1, rfl, k3⟩ := h1.unframe hr
    refine ⟨upd H1 r none, ⟨v, vs', H3, rfl, k1, h2.unframe k3⟩, ?_, by simp [upd]⟩
    have hro : H1 r = some o := by
      rcases h2 with ⟨_, _, rfl⟩ | ⟨r', pre, lo, rest, hr', _, _, rfl⟩
      · simp [upd]
      · rw [upd_eq_none] at hr'
        simp [upd, hr'.2.1]
    rw [upd_upd]
    exact (upd_self hro).symm

/-- **append of one int** to such a row. -/
theorem OwnV.append1 {e : TypeId} {H H0 : DHeap} {bytes : Nat} {l : List Int} {v : DVal} {t : Int} {dst : Option Nat} {K : DK} {env : Nat → DVal} (hv : OwnV e H l v H0) (hb : (l.length + 1) * bytes ≤ 35184372088832)
    (hK : ∀ v' H', OwnV e H (l ++ [t]) v' H' → K ⟨updO env dst v', H'⟩) : dAppendTo e 1 bytes 1 [dI t] dst v K ⟨env, H0⟩ := by
  rcases hv with ⟨rfl, rfl, rfl⟩ | ⟨r, pre, lo, rest, hr, rfl, hlo, rfl⟩
  · simp only [dAppendTo]
    refine ⟨fun h => by omega, fun _ => ⟨by simpa using hb, fun r hr => hK _ _ (.inr ⟨r, [], 1, [], hr, rfl, rfl, rfl⟩)⟩⟩
  · simp only [dAppendTo, true_and]
    rw [upd_same]
    simp only [dAppendO, true_and, Nat.mul_one, upd_upd]
    refine ⟨fun h1 => ⟨by simp; omega, ?_⟩, fun h1 => ⟨by simp, hb, fun r' pre' hr' _ => ?_⟩⟩
    · cases rest with
      | nil => simp at hlo; omega
      | cons x rest =>
        have hsp : splice (pre ++ (l.map dI ++ x :: rest)) (pre.length + l.length) [dI t] = pre ++ ((l ++ [t]).map dI ++ rest) := by
          have h2 : pre ++ (l.map dI ++ x :: rest) = (pre ++ l.map dI) ++ (x :: rest) := by simp
          have h3 : (pre ++ l.map dI).length = pre.length + l.length := by simp
          rw [h2, ← h3]
          unfold splice
          rw [List.take_left, List.drop_append, List.drop_of_length_le (by simp)]
          simp
        rw [hsp]
        refine hK _ _ (.inr ⟨r, pre, lo, rest, hr, by simp, by simp at hlo ⊢; omega, rfl⟩)
    · rw [if_pos (.inl (by omega)), upd_self hr]
      rw [upd_self hr] at hr'
      have hrest : rest = [] := List.length_eq_zero_iff.1 (by omega)
      subst hrest
      refine hK _ _ (.inr ⟨r', pre', l.length + 1, [], hr', by simp, by simp, ?_⟩)
      simp [take_map_len]

theorem OwnRows.snoc {e : TypeId} {H : DHeap} : ∀ {q : List (List Int)} {vs : List DVal} {H1 H2 : DHeap} {l : List Int} {v : DVal}, OwnRows e H q vs H1 → OwnV e H1 l v H2 → OwnRows e H (q ++ [l]) (vs ++ [v]) H2
  | [], vs, H1, H2, l, v, h, k => by
    obtain ⟨rfl, rfl⟩ := h
    exact ⟨v, [], _, rfl, ⟨rfl, rfl⟩, k⟩
  | m :: q, vs, H1, H2, l, v, h, k => by
    obtain ⟨u, vs', H3, rfl, h1, h2⟩ := h
    obtain ⟨H4, k1, k2⟩ := h2.swap k
    exact ⟨u, vs' ++ [v], H4, rfl, h1.snoc k1, k2⟩

/-- A row that lay below comes on top. -/
theorem OwnRows.above {e : TypeId} {H H0 : DHeap} {l : List Int} {v : DVal} (h0 : OwnV e H l v H0) : ∀ {q : List (List Int)} {vs : List DVal} {H1 : DHeap}, OwnRows e H0 q vs H1 → ∃ H0', OwnRows e H q vs H0' ∧ OwnV e H0' l v H1
  | [], vs, H1, h => by
    obtain ⟨rfl, rfl⟩ := h
    exact ⟨H, ⟨rfl, rfl⟩, h0⟩
  | m :: q, vs, H1, h => by
    obtain ⟨u, vs', H3, rfl, h1, h2⟩ := h
    obtain ⟨H4, k1, k2⟩ := h1.above h0
    obtain ⟨H5, m1, m2⟩ := k2.swap h2
    exact ⟨H5, ⟨u, vs', H4, rfl, k1, m1⟩, m2⟩

/-- The row below is let go. -/
theorem OwnV.drop {e : TypeId} {H H0 H1 : DHeap} {l m : List Int} {u v : DVal} (h : OwnV e H m u H0) (k : OwnV e H0 l v H1) : ∃ H2, OwnV e H l v H2 ∧ ∀ r o, H2 r = some o → H1 r = some o := by
  obtain ⟨H2, k1, k2⟩ := h.swap k
  refine ⟨H2, k1, fun r o ho => ?_⟩
  rcases k2 with ⟨_, _, rfl⟩ | ⟨r', pre, lo, rest, hr', _, _, rfl⟩
  · exact ho
  · have : r ≠ r' := fun e => by rw [e, hr'] at ho; cases ho
    simp [upd, this, ho]

/-- A list of rows of the call's own, in a slice of its own. -/
def OwnLL (e e' : TypeId) (H : DHeap) (q : List (List Int)) (v : DVal) (H' : DHeap) : Prop :=
  (q = [] ∧ v = .nilSlice ∧ H' = H) ∨ ∃ ro vs H1, OwnRows e H q vs H1 ∧ H1 ro = none ∧ v = .oslice 1 ro 0 q.length q.length ∧ H' = upd H1 ro (some (.cells vs e'))

theorem OwnA.ownV {e : TypeId} {H H0 : DHeap} {l : List Int} {v : DVal} (h : OwnA H e 1 l.length (l.map dI) v H0) : OwnV e H l v H0 := by
  rcases h with ⟨a, b, rfl, rfl⟩ | ⟨r, hr, hl, rfl, rfl⟩
  · exact .inl ⟨List.length_eq_zero_iff.1 a, rfl, rfl⟩
  · exact .inr ⟨r, [], l.length, [], hr, rfl, by simp, by simp⟩

/-- Own rows seen as memory that lasts. -/
theorem OwnV.ghost {e : TypeId} {H H0 : DHeap} {l : List Int} {v : DVal} (h : OwnV e H l v H0) : GhostE H0 v H (dIs l) := by
  rcases h with ⟨rfl, rfl, rfl⟩ | ⟨r, pre, lo, rest, hr, rfl, hlo, rfl⟩
  · exact fun w hw => ⟨hw, fun _ h => h, fun x hx => DLe.nil _ _ _ hx⟩
  · have := GhostE.fz (v := .oslice 1 r pre.length l.length lo) (upd_same H r (some (.cells (pre ++ (l.map dI ++ rest)) e)))
    rw [upd_none_self hr] at this
    simp only [Dl.fz, if_pos, List.drop_left, Nat.mul_one] at this
    rw [List.take_append_of_le_length (by simp), List.take_of_length_le (by simp)] at this
    exact this

-- loose values: none points into memory that lasts -------------------------------------------------------------------------------
/-- Whether this value describes a model's value does not hang on which blocks are the call's own. -/
def loose : DVal → Bool
  | .bool _ | .int _ _ | .str _ | .nilPtr | .nilSlice | .nilMap | .nilFunc | .nilIface => true
  | .optr _ _ | .oslice _ _ _ _ _ | .omap _ => true
  | .tuple l => looses l
  | .agg l => looses l
  | _ => false
where looses : List DVal → Bool
  | [] => true
  | d :: ds => loose d && looses ds

mutual
theorem loose_rel {w : World} {H H' : DHeap} : ∀ (d : DVal) (v : Value), loose d = true → Rel w H d v → Rel w H' d v
  | .tuple l, v, hp, h => by
    simp only [loose] at hp
    simp only [Rel] at h ⊢
    obtain ⟨x, rfl, h1⟩ := h
    exact ⟨x, rfl, looses_rel _ _ hp h1⟩
  | .agg l, v, hp, h => by
    simp only [loose] at hp
    simp only [Rel] at h ⊢
    obtain ⟨x, rfl, h1⟩ := h
    exact ⟨x, rfl, looses_rel _ _ hp h1⟩
  | .bool x, v, hp, h => by simpa [Rel] using h
  | .int x y, v, hp, h => by simpa [Rel] using h
  | .str x, v, hp, h => by simpa [Rel] using h
  | .nilPtr, v, hp, h => by simpa [Rel] using h
  | .nilSlice, v, hp, h => by simpa [Rel] using h
  | .nilMap, v, hp, h => by simpa [Rel] using h
  | .nilFunc, v, hp, h => by simpa [Rel] using h
  | .nilIface, v, hp, h => by simpa [Rel] using h
  | .optr _ _, v, hp, h => by simpa [Rel] using h
  | .oslice _ _ _ _ _, v, hp, h => by simpa [Rel] using h
  | .omap _, v, hp, h => by simpa [Rel] using h
  | .raw _, _, hp, _ => by cases hp
  | .vptr _ _, _, hp, _ => by cases hp
  | .vslice _ _, _, hp, _ => by cases hp
  | .func _ _ _, _, hp, _ => by cases hp
  | .iface _ _, _, hp, _ => by cases hp
theorem looses_rel {w : World} {H H' : DHeap} : ∀ (ds : List DVal) (vs : List Value), loose.looses ds = true → RelL w H ds vs → RelL w H' ds vs
  | [], _, _, h => by simpa [RelL] using h
  | d :: ds, vs, hp, h => by
    simp only [loose.looses, Bool.and_eq_true] at hp
    simp only [RelL] at h ⊢
    obtain ⟨y, ys, rfl, h1, h2⟩ := h
    exact ⟨y, ys, rfl, loose_rel d y hp.1 h1, looses_rel ds ys hp.2 h2⟩
end
theorem looses_iff {l : List DVal} : loose.looses l = true ↔ ∀ d ∈ l, loose d = true := by
  induction l with
  | nil => simp [loose.looses]
  | cons d l ih => simp [loose.looses, ih]
theorem looses_append {l m : List DVal} : loose.looses (l ++ m) = true ↔ loose.looses l = true ∧ loose.looses m = true := by
  simp only [looses_iff, List.mem_append]
  exact ⟨fun h => ⟨fun d hd => h d (.inl hd), fun d hd => h d (.inr hd)⟩, fun h d hd => hd.elim (h.1 d) (h.2 d)⟩
theorem looses_ints (l : List Int) : loose.looses (l.map dI) = true := by
  rw [looses_iff]; intro d hd
  obtain ⟨x, _, rfl⟩ := List.mem_map.1 hd
  rfl
def looseO : DObj → Bool
  | .cells cs _ => loose.looses cs
  | .map es => es.all fun p => loose p.1 && loose p.2
  | .loop _ _ _ => false
  | .iter _ _ => true
/-- What H' has beyond H is loose. -/
def Loose (H H' : DHeap) : Prop := ∀ r o, H' r = some o → H r = some o ∨ looseO o = true
theorem Loose.refl (H : DHeap) : Loose H H := fun _ _ h => .inl h
theorem Loose.trans {H H' H'' : DHeap} (h : Loose H H') (k : Loose H' H'') : Loose H H'' := fun r o ho => by
  rcases k r o ho with h1 | h1
  · exact h r o h1
  · exact .inr h1
theorem Loose.sub {H H' H'' : DHeap} (h : Loose H H') (k : ∀ r o, H'' r = some o → H' r = some o) : Loose H H'' := fun r o ho => h r o (k r o ho)
theorem Loose.upd {H H' : DHeap} (h : Loose H H') {r : Nat} {o : DObj} (ho : looseO o = true) : Loose H (upd H' r (some o)) := fun b p hb => by
  simp only [Dl.upd] at hb
  split at hb
  · cases hb; exact .inr ho
  · exact h b p hb
theorem Loose.unframe {H H' : DHeap} {r : Nat} {o : DObj} (h : Loose (Dl.upd H r (some o)) H') : Loose H (Dl.upd H' r none) := fun b p hb => by
  simp only [Dl.upd] at hb
  split at hb
  · cases hb
  · rename_i hne
    rcases h b p hb with h1 | h1
    · simp only [Dl.upd, if_neg hne] at h1; exact .inl h1
    · exact .inr h1
theorem OwnA.loose {e : TypeId} {H H0 : DHeap} {n : Nat} {cs : List DVal} {v : DVal} (h : OwnA H e 1 n cs v H0) (hc : loose.looses cs = true) : Loose H H0 := by
  rcases h with ⟨_, _, _, rfl⟩ | ⟨r, hr, hl, rfl, rfl⟩
  · exact .refl _
  · exact (Loose.refl H).upd hc
theorem OwnV.one_loose {e : TypeId} {H H1 : DHeap} {l : List Int} {v : DVal} (h : OwnV e H l v H1) : Dl.loose v = true := by
  rcases h with ⟨_, rfl, _⟩ | ⟨_, _, _, _, _, rfl, _⟩ <;> rfl
theorem OwnRows.looses {e : TypeId} {H : DHeap} : ∀ {q : List (List Int)} {vs : List DVal} {H1 : DHeap}, OwnRows e H q vs H1 → loose.looses vs = true
  | [], _, _, h => by rw [h.1]; rfl
  | l :: q, vs, H1, h => by
    obtain ⟨v, vs', H2, rfl, h1, h2⟩ := h
    simp only [loose.looses, h2.one_loose, h1.looses, Bool.and_self]
end Go.Dl

-- THE DATA LEVEL, PART K: the frame of a call: what a callee makes with no memory of the caller's at hand, it makes beside it.
namespace Go.Dl
open Go
set_option maxRecDepth 10000

theorem DCalls.frame {P : Program} {G : Nat → DVal} {f : FuncId} {args args' : List DVal} {H : DHeap} {R : DEnd → DHeap → Prop} (h : DCalls P G f args' h0 R)
    (hb : ∀ w vs, SimHeap w H → RelL w H args vs → RelL w h0 args' vs) (hR : ∀ e X, R e X → ∃ v, e = .ret v ∧ loose v = true ∧ Loose h0 X) : DCalls P G f args H (fun e H' => ∃ X, R e X ∧ Disj H X ∧ H' = over H X) := by
  refine ⟨h.1, fun vs w hv hH hg => ?_⟩
  have hg0 : GOk G w h0 := hg.lasts (lasts_h0 H w)
  refine (h.2 vs w (hb w vs hH hv) (fun r o hr => by cases hr) hg0).mono fun x w' ⟨e', X, r, k1, k2, k3⟩ => ?_
  obtain ⟨v, rfl, hl, hX⟩ := hR _ _ r
  have hown : ∀ b, X b ≠ none → w.heap.size ≤ b := fun b hb => (k3.own b hb).resolve_left (fun k => k rfl)
  have hd : Disj H X := fun b hb => by
    cases e1 : H b with
    | none => rfl
    | some o => have := hH.lt (r := b) (by simp [e1]); have := hown b hb; omega
  have hE : Ext H w (over H X) w' := ⟨k3.os, k3.tape, k3.output, k3.size, fun b hb _ => k3.block b hb rfl, fun b hb => by
    by_cases e1 : X b = none
    · rw [over_hi e1] at hb; exact .inl hb
    · exact .inr (hown b e1), k3.keep, fun a ha _ => k3.fz a ha rfl⟩
  refine ⟨.ret v, over H X, ⟨X, r, hd, rfl⟩, ?_, ?_, hE⟩
  · cases k1 with
    | ret d x hx => exact .ret _ _ (loose_rel _ _ hl hx)
  · intro b o ho
    cases e1 : X b with
    | none =>
      rw [over_hi e1] at ho
      rw [k3.block b (hH.lt (by simp [ho])) rfl]
      exact (hH b o ho).lasts hE.lasts
    | some o' =>
      rw [over_x e1] at ho; cases ho
      have hlo : looseO o = true := (hX b o e1).resolve_left (fun k => by cases k)
      have hr := k2 b o e1
      cases o with
      | cells cs e =>
        obtain ⟨xs, c, fz', h1, h2, h3, h4⟩ := hr
        exact ⟨xs, c, fz', h1, h2, looses_rel _ _ hlo h3, h4⟩
      | loop _ _ _ => cases hlo
      | iter _ _ => exact hr
      | map es =>
        obtain ⟨ms, c, h1, h2⟩ := hr
        refine ⟨ms, c, h1, ?_⟩
        simp only [looseO, List.all_eq_true, Bool.and_eq_true] at hlo
        clear h1 e1
        generalize ms.toList = l at h2
        induction es generalizing l with
        | nil => exact h2
        | cons p es ih =>
          obtain ⟨m, ms', rfl, g1, g2, g3⟩ := h2
          exact ⟨m, ms', rfl, loose_rel _ _ (hlo p (by simp)).1 g1, loose_rel _ _ (hlo p (by simp)).2 g2, ih (fun q hq => hlo q (List.mem_cons_of_mem _ hq)) _ g3⟩

/-- A call that only looks, and whose result points to nothing. -/
theorem DCalls.lent {P : Program} {G : Nat → DVal} {f : FuncId} {args args' : List DVal} {H : DHeap} {v : DVal} (h : DCalls P G f args' h0 (DRet v h0))
    (hb : ∀ w vs, SimHeap w H → RelL w H args vs → RelL w h0 args' vs) (hv : loose v = true) : DCalls P G f args H (DRet v H) :=
  (h.frame hb (fun e X hr => ⟨v, hr.1, hv, by rw [hr.2]; exact .refl _⟩)).mono fun e H' ⟨X, hr, _, hH⟩ => ⟨hr.1, by rw [hH, hr.2, over_h0]⟩


/-- A slice of the call's own, lent to a callee that only looks. -/
theorem OwnJ.lend {H H' : DHeap} {e : TypeId} {size n : Nat} {cs : List DVal} {v : DVal} (h : OwnJ H e size n cs v H') (ds : List DVal) : ∀ w vs, SimHeap w H' → RelL w H' (v :: ds) vs → RelL w h0 (.vslice cs n :: ds) vs := by
  intro w vs hw hv
  simp only [RelL] at hv ⊢
  obtain ⟨y, ys, rfl, h1, h2⟩ := hv
  obtain ⟨_, _, k3⟩ := h.ghost w hw
  exact ⟨y, ys, rfl, Rel.lasts (lasts_h0 H w) _ _ (k3 y h1), RelL.lasts (lasts_h0 H' w) _ _ h2⟩
end Go.Dl

-- General: a literal of slices (blocks of the call's own, one in the other) that is handed out for good; a part of an array that is lent.
namespace Go.Dl
open Go
set_option maxRecDepth 10000
variable {H Hn : DHeap}

/-- What these values are when memory is let go down to H. -/
def Thaw (Hn H : DHeap) (v f : DVal) : Prop := ∀ w, SimHeap w Hn → ∀ x, Rel w Hn v x → Rel w H f x
def Thaws (Hn H : DHeap) (vs fs : List DVal) : Prop := ∀ w, SimHeap w Hn → ∀ xs, RelL w Hn vs xs → RelL w H fs xs
theorem Thaws.nil (Hn H : DHeap) : Thaws Hn H [] [] := fun w _ xs h => by simpa [RelL] using h
theorem Thaws.cons {v f : DVal} {vs fs : List DVal} (h : Thaw Hn H v f) (k : Thaws Hn H vs fs) : Thaws Hn H (v :: vs) (f :: fs) := fun w hw xs hx => by
  simp only [RelL] at hx ⊢
  obtain ⟨y, ys, rfl, h1, h2⟩ := hx
  exact ⟨y, ys, rfl, h w hw y h1, k w hw ys h2⟩
theorem Thaw.plain {v : DVal} (h : Dl.plain v = true) : Thaw Hn H v v := fun w _ x hx => plain_rel v x h hx
theorem Thaw.nil : Thaw Hn H .nilSlice (.vslice [] 0) := fun w _ x hx => DLe.nil w H x (by simpa [Rel] using hx)
theorem Thaw.slice {r size n : Nat} {cs : List DVal} {e : TypeId} (hs : Sub H Hn) (h0 : H r = none) (hr : Hn r = some (.cells cs e)) (hl : cs.length = n * size) : Thaw Hn H (.oslice size r 0 n n) (.vslice cs n) := fun w hw x hx => by
  have h1 := fz_rel hw hr _ _ hx
  rw [show fz r cs (.oslice size r 0 n n) = .vslice cs n by simp only [fz, if_pos]; rw [List.drop_zero, List.take_of_length_le (by omega)]] at h1
  exact Rel.lasts (lasts_sub (fun b o hb => by
    by_cases e : b = r
    · subst e; rw [h0] at hb; cases hb
    · simp only [upd, if_neg e]; exact hs b o hb) w) _ _ h1
/-- Blocks laid one after the other: number and cells. -/
def Tab (H Hn : DHeap) (e : TypeId) (L : List (Nat × List DVal)) : Prop := Sub H Hn ∧ ∀ p ∈ L, H p.1 = none ∧ Hn p.1 = some (.cells p.2 e)
theorem Tab.nil (H : DHeap) (e : TypeId) : Tab H H e [] := ⟨Sub.refl _, fun p h => by cases h⟩
theorem Tab.new {e : TypeId} {L : List (Nat × List DVal)} (h : Tab H Hn e L) {r : Nat} (hr : Hn r = none) (cs : List DVal) : Tab H (upd Hn r (some (.cells cs e))) e ((r, cs) :: L) := by
  refine ⟨h.1.new hr _, fun p hp => ?_⟩
  rcases List.mem_cons.1 hp with rfl | hp
  · exact ⟨h.1.lo hr, by simp [upd]⟩
  · obtain ⟨h1, h2⟩ := h.2 p hp
    exact ⟨h1, by rw [upd, if_neg (fun e => by rw [e, hr] at h2; cases h2)]; exact h2⟩
theorem Tab.thaw {e : TypeId} {L : List (Nat × List DVal)} (h : Tab H Hn e L) {r n size : Nat} {cs : List DVal} (hm : (r, cs) ∈ L) (hl : cs.length = n * size) : Thaw Hn H (.oslice size r 0 n n) (.vslice cs n) :=
  Thaw.slice h.1 (h.2 _ hm).1 (h.2 _ hm).2 hl
/-- The outermost slice, handed out. -/
theorem Thaws.ghost {ro n size : Nat} {cs fs : List DVal} {e : TypeId} (hs : Sub H Hn) (hr : Hn ro = none) (hl : cs.length = n * size) (h : Thaws Hn H cs fs) (hf : fs.length = cs.length) :
    GhostE (upd Hn ro (some (.cells cs e))) (.oslice size ro 0 n n) H (.vslice fs n) := fun w hw => by
  obtain ⟨k1, k2, k3⟩ := (GhostE.fz (H := upd Hn ro (some (.cells cs e))) (v := .oslice size ro 0 n n) (r := ro) (cs := cs) (e := e) (by simp [upd])) w hw
  rw [upd_undo hr] at k1 k2 k3
  rw [show fz ro cs (.oslice size ro 0 n n) = .vslice cs n by simp only [fz, if_pos]; rw [List.drop_zero, List.take_of_length_le (by omega)]] at k3
  obtain ⟨g1, g2, _⟩ := GhostE.sub hs (.bool true) w k1
  refine ⟨g1, fun b hb => k2 b (g2 b hb), fun x hx => ?_⟩
  have := k3 x hx
  simp only [Rel] at this ⊢
  obtain ⟨a, cap, rfl, hc, hh⟩ := this
  refine ⟨a, cap, rfl, hc, ?_⟩
  rcases hh with rfl | ⟨b, o, xs, rfl, hcell, hrel⟩
  · exact .inl (List.length_eq_zero_iff.1 (by simpa using hf))
  · refine .inr ⟨b, o, xs, rfl, ?_, h w k1 xs hrel⟩
    rcases hcell with h0 | ⟨hb, hcell⟩
    · exact .inl h0
    · exact .inr ⟨sub_none hs hb, hcell⟩

/-- A part of an own array, lent to a callee that only looks. -/
theorem lendO {r off n lo : Nat} {cs : List DVal} {e : TypeId} (hr : H r = some (.cells cs e)) (ds : List DVal) : ∀ w vs, SimHeap w H → RelL w H (.oslice 1 r off n lo :: ds) vs → RelL w h0 (.vslice ((cs.drop off).take n) n :: ds) vs := by
  intro w vs hw hv
  simp only [RelL] at hv ⊢
  obtain ⟨y, ys, rfl, h1, h2⟩ := hv
  have h3 := fz_rel hw hr _ _ h1
  rw [show fz r cs (.oslice 1 r off n lo) = .vslice ((cs.drop off).take n) n by simp only [fz, if_pos, Nat.mul_one]] at h3
  exact ⟨y, ys, rfl, Rel.lasts (lasts_h0 _ w) _ _ h3, RelL.lasts (lasts_h0 H w) _ _ h2⟩
theorem agg_eq {P : Program} {s : DS} {t : TypeId} {c : Bool} {dst : Option Nat} {xs ys : List DVal} {K : DK} {b : Bool} (h1 : aggB P t = some true) (h2 : P.eqGuardType P.depth t = false) (h3 : dEqT P 6 t xs ys = some b) : dBin P t c .eql dst (.agg xs) (.agg ys) K s = dput dst (.bool b) K s := by
  simp only [dBin, h1, h2, h3, eqOp, dEqP, true_and]
theorem agg_ne {P : Program} {s : DS} {t : TypeId} {c : Bool} {dst : Option Nat} {xs ys : List DVal} {K : DK} {b : Bool} (h1 : aggB P t = some true) (h2 : P.eqGuardType P.depth t = false) (h3 : dEqT P 6 t xs ys = some b) : dBin P t c .neq dst (.agg xs) (.agg ys) K s = dput dst (.bool (!b)) K s := by
  simp only [dBin, h1, h2, h3, eqOp, dEqP, true_and]
end Go.Dl

-- Library functions at the data level: Fields, Split, Contains, TrimLeft, HasPrefix, Repeat, Count, ParseUint.
namespace Go.Dl
open Go Go.Proofs
set_option maxRecDepth 10000

theorem first_of (c : UInt8) : ∀ {s : List UInt8}, c ∈ s → ∃ a r, s = a ++ c :: r ∧ c ∉ a
  | [], h => by cases h
  | b :: s, h => by
    by_cases e : b = c
    · exact ⟨[], s, by rw [e]; rfl, by simp⟩
    · obtain ⟨a, r, rfl, ha⟩ := first_of c ((List.mem_cons.1 h).resolve_left (Ne.symm e))
      exact ⟨b :: a, r, rfl, by simp [ha, Ne.symm e]⟩
theorem splitB_words (c : UInt8) : ∀ (k : Nat) (s : List UInt8), s.count c ≤ k → (Lib.splitB ⟨#[c]⟩ 0 k ⟨⟨s⟩⟩).map (fun b => b.data.toList) = splitBy c s []
  | 0, s, h => by
    have : c ∉ s := fun hm => by have := List.count_pos_iff.2 hm; omega
    rw [splitBy_no c s this, Lib.splitB_zero]; simp
  | k + 1, s, h => by
    by_cases hm : c ∈ s
    · obtain ⟨a, r, rfl, ha⟩ := first_of c hm
      have hix : Lib.indexB ⟨⟨a ++ c :: r⟩⟩ ⟨#[c]⟩ = a.length := index_at a r c ha
      have hcr : r.count c ≤ k := by
        rw [List.count_append, List.count_cons_self] at h; omega
      have e1 : ((ByteArray.mk ⟨a ++ c :: r⟩).extract 0 ((a.length : Int).toNat + 0)).data.toList = a := by
        rw [ByteArray.data_extract]; simp
      have e2 : (ByteArray.mk ⟨a ++ c :: r⟩).extract ((a.length : Int).toNat + (ByteArray.mk #[c]).size) (ByteArray.mk ⟨a ++ c :: r⟩).size = ByteArray.mk ⟨r⟩ := by
        apply ByteArray.ext
        rw [ByteArray.data_extract]
        apply Array.ext'
        simp [ByteArray.size]
        exact List.take_of_length_le (by omega)
      rw [splitBy_at c a r ha, List.nil_append, Lib.splitB, hix, if_neg (by simp), List.map_cons, e1, e2, splitB_words c k r hcr]
    · have hix : Lib.indexB ⟨⟨s⟩⟩ ⟨#[c]⟩ = -1 := index_no s c hm
      rw [splitBy_no c s hm, Lib.splitB_miss _ _ _ _ hix]; simp

section
variable {G : Nat → DVal} {H : DHeap}
/-- strings.Fields: the words, as memory that lasts. -/
theorem flds_spec (hG : G 1 = .vptr (Lib.asciiSpaceTab.map fun z => .int .u8 z) 0) (s : List UInt8) (hs : s.length < 4294967281) (ha : ∀ (j : Nat) b, s[j]? = some b → b.toNat < 128) :
    DCalls Tryz.prog G 76 [.str s] H (DRet (dStrs (Lib.fields s)) H) := by
  refine ⟨Tryz.call76, fun vs w hv hH hg => ?_⟩
  simp only [RelL, Rel] at hv
  obtain ⟨_, _, rfl, rfl, rfl⟩ := hv
  refine (Tryz.strings_Fields ⟨⟨s⟩⟩ w hs ha (tab_is (show Tryz.prog.globalNamed "strings.asciiSpace" = some 1 by kernel_rfl) hg hG)).mono fun e w' ⟨he, hw⟩ => ?_
  subst he; subst hw
  have hq : RowKit.Below w.heap.size w (w.alloc (.cells ((Lib.fields s).map fun l => Value.string ⟨l.toArray⟩).toArray 9)) := RowKit.Below.alloc (RowKit.Below.refl _ _) (Nat.le_refl _) _
  obtain ⟨k1, k2⟩ := (Quiet.below hq).ext hH
  refine ⟨_, H, ⟨rfl, rfl⟩, .ret _ _ ?_, k1, k2⟩
  simp only [dStrs, Rel]
  refine ⟨_, _, by rfl, Nat.le_refl _, .inr ⟨w.heap.size, 0, (Lib.fields s).map fun l => Value.string ⟨l.toArray⟩, rfl, .inr ⟨?_, fun i x hx => ?_⟩, ?_⟩⟩
  · cases e : H w.heap.size with
    | none => rfl
    | some o => exact absurd (hH.lt (r := w.heap.size) (by simp [e])) (by omega)
  · rw [Nat.zero_add, World.cell?, World.alloc_heap_new]
    simpa using hx
  · refine RelL.mk (by simp) fun i d x h1 h2 => ?_
    simp only [List.getElem?_map, Option.map_eq_some_iff] at h1 h2
    obtain ⟨b1, q1, rfl⟩ := h1
    obtain ⟨b2, q2, rfl⟩ := h2
    rw [q1] at q2; cases q2
    simp [Rel]
/-- strings.Split by one byte: the pieces, as memory that lasts. -/
theorem split_spec (hG : GT G) (s : List UInt8) (c : UInt8) (hs : s.length < 4294967281) : DCalls Tryz.prog G 40 [.str s, .str [c]] H (DRet (dStrs (splitBy c s [])) H) := by
  refine ⟨Tryz.call40, fun vs w hv hH hg => ?_⟩
  simp only [RelL, Rel] at hv
  obtain ⟨_, _, rfl, rfl, _, _, rfl, rfl, rfl⟩ := hv
  obtain ⟨m, e1⟩ := hG.maxLen
  obtain ⟨x, cx, rx⟩ := var_cell hg e1
  simp only [Rel] at rx; subst rx
  refine (Tryz.strings_Split ⟨⟨s⟩⟩ ⟨#[c]⟩ m w hs cx (by simp [ByteArray.size])).mono fun e w' ⟨he, hw⟩ => ?_
  have hcnt : Lib.countB ⟨⟨s⟩⟩ ⟨#[c]⟩ = s.count c := Lib.count_one c s
  have hall := Lib.splitB_all ⟨#[c]⟩ (by simp [ByteArray.size]) 0 _ ⟨⟨s⟩⟩ rfl
  have hws := splitB_words c (Lib.countB ⟨⟨s⟩⟩ ⟨#[c]⟩) s (by rw [hcnt]; exact Nat.le_refl _)
  have hlen : (splitBy c s []).length = Lib.countB ⟨⟨s⟩⟩ ⟨#[c]⟩ + 1 := by rw [← hws, List.length_map, hall]
  generalize hsb : Lib.splitB ⟨#[c]⟩ 0 (Lib.countB ⟨⟨s⟩⟩ ⟨#[c]⟩) ⟨⟨s⟩⟩ = bs at hw hall hws
  rw [← hlen] at he
  subst he; subst hw
  have hq : RowKit.Below w.heap.size w (w.alloc (.cells (bs.map Value.string).toArray 9)) := RowKit.Below.alloc (RowKit.Below.refl _ _) (Nat.le_refl _) _
  obtain ⟨k1, k2⟩ := (Quiet.below hq).ext hH
  refine ⟨_, H, ⟨rfl, rfl⟩, .ret _ _ ?_, k1, k2⟩
  simp only [dStrs, Rel]
  refine ⟨_, _, by rfl, Nat.le_refl _, .inr ⟨w.heap.size, 0, bs.map Value.string, rfl, .inr ⟨?_, fun i x hx => ?_⟩, ?_⟩⟩
  · cases e : H w.heap.size with
    | none => rfl
    | some o => exact absurd (hH.lt (r := w.heap.size) (by simp [e])) (by omega)
  · rw [Nat.zero_add, World.cell?, World.alloc_heap_new]
    simpa using hx
  · rw [← hws]
    refine RelL.mk (by simp) fun i d x h1 h2 => ?_
    simp only [List.getElem?_map, Option.map_eq_some_iff] at h1 h2
    obtain ⟨b1, ⟨b0, q0, rfl⟩, rfl⟩ := h1
    obtain ⟨b2, q2, rfl⟩ := h2
    rw [q0] at q2; cases q2
    simp only [Rel]

theorem contains_spec (hG : GT G) (s sub : List UInt8) (hs : s.length < 4294967281) :
    DCalls Tryz.prog G 50 [.str s, .str sub] H (DRet (.bool (Lib.contains s sub)) H) := by
  refine DCalls.quiet Tryz.call50 fun vs w hv hH hg => ?_
  simp only [RelL, Rel] at hv
  obtain ⟨_, _, rfl, rfl, _, _, rfl, rfl, rfl⟩ := hv
  obtain ⟨m, e1⟩ := hG.maxLen
  obtain ⟨x, c, r⟩ := var_cell hg e1
  simp only [Rel] at r; subst r
  refine (Tryz.strings_Contains ⟨⟨s⟩⟩ ⟨⟨sub⟩⟩ m w hs c).mono fun e w' ⟨he, hw⟩ => ?_
  subst he; subst hw
  exact ⟨.refl _, _, rfl, .ret _ _ (by simp [Rel])⟩
theorem contains1_spec (s : List UInt8) (c : UInt8) :
    DCalls Tryz.prog G 50 [.str s, .str [c]] H (DRet (.bool (decide (c ∈ s))) H) := by
  rw [← index_mem]
  refine DCalls.quiet Tryz.call50 fun vs w hv hH hg => ?_
  simp only [RelL, Rel] at hv
  obtain ⟨_, _, rfl, rfl, _, _, rfl, rfl, rfl⟩ := hv
  refine (Tryz.strings_Contains_one ⟨⟨s⟩⟩ c w).mono fun e w' ⟨he, hw⟩ => ?_
  subst he; subst hw
  exact ⟨.refl _, _, rfl, .ret _ _ (by simp [Rel])⟩
theorem trimLeft_spec (s : List UInt8) : DCalls Tryz.prog G 84 [.str s, .str [32]] H (DRet (.str (trimL s)) H) := by
  refine DCalls.quiet Tryz.call84 fun vs w hv hH hg => ?_
  simp only [RelL, Rel] at hv
  obtain ⟨_, _, rfl, rfl, _, _, rfl, rfl, rfl⟩ := hv
  refine (Tryz.strings_TrimLeft_one ⟨⟨s⟩⟩ 32 (by decide) w).mono fun e w' ⟨he, hw⟩ => ?_
  subst he; subst hw
  exact ⟨.refl _, _, rfl, .ret _ _ (by simp [Rel, trim_lib])⟩
theorem hasPrefix_spec (s p : List UInt8) : DCalls Tryz.prog G 64 [.str s, .str p] H (DRet (.bool (Lib.hasPrefix s p)) H) := by
  refine DCalls.quiet Tryz.call64 fun vs w hv hH hg => ?_
  simp only [RelL, Rel] at hv
  obtain ⟨_, _, rfl, rfl, _, _, rfl, rfl, rfl⟩ := hv
  refine (Tryz.strings_HasPrefix ⟨⟨s⟩⟩ ⟨⟨p⟩⟩ w).mono fun e w' ⟨he, hw⟩ => ?_
  subst he; subst hw
  exact ⟨.refl _, _, rfl, .ret _ _ (by simp [Rel])⟩
theorem repeat_spec (s : List UInt8) (c : Nat) (hc : c ≤ 9223372036854775807) (hl : s.length * c ≤ 140737488355328) : DCalls Tryz.prog G 30 [.str s, dI c] H (DRet (.str (Lib.repeatL s c)) H) := by
  refine DCalls.quiet Tryz.call30 fun vs w hv hH hg => ?_
  simp only [RelL, Rel] at hv
  obtain ⟨_, _, rfl, rfl, _, _, rfl, rfl, rfl⟩ := hv
  refine (Tryz.strings_Repeat ⟨⟨s⟩⟩ c w hc hl).mono fun e w' ⟨he, hw⟩ => ?_
  subst he
  exact ⟨.below hw, _, rfl, .ret _ _ (by simp [Rel])⟩
theorem count_spec (s : List UInt8) (c : UInt8) : DCalls Tryz.prog G 38 [.str s, .str [c]] H (DRet (dI (s.count c)) H) := by
  refine DCalls.quiet Tryz.call38 fun vs w hv hH hg => ?_
  simp only [RelL, Rel] at hv
  obtain ⟨_, _, rfl, rfl, _, _, rfl, rfl, rfl⟩ := hv
  refine (Tryz.strings_Count_one ⟨⟨s⟩⟩ c w).mono fun e w' ⟨he, hw⟩ => ?_
  subst he; subst hw
  exact ⟨.refl _, _, rfl, .ret _ _ (by simp [Rel, Lib.countByte])⟩
/-- What strconv.ParseUint returns (of at most 32 bits). -/
def PU (s : List UInt8) (v : Int) (er : DVal) : Prop :=
  (∀ u, Lib.parseUintB 32 s = .ok u → v = (u : Int) ∧ er = .nilIface) ∧ ((∀ u, Lib.parseUintB 32 s ≠ .ok u) → ∃ t x, er = .iface t (.raw x))
theorem parseUint_spec (hG : GT G) (s : List UInt8) (hs : s.length ≤ 281474976710656) (hb : Lib.parseUintB 32 s = .syntax ∨ Lib.parseUintB 32 s = .range ∨ ∃ u, Lib.parseUintB 32 s = .ok u) :
    DCalls Tryz.prog G 113 [.str s, .int .i64 10, .int .i64 32] H fun e H' => (∃ v er, e = .ret (.tuple [.int .u64 v, er]) ∧ PU s v er) ∧ H' = H := by
  refine DCalls.quiet Tryz.call113 fun vs w hv hH hg => ?_
  simp only [RelL, Rel] at hv
  obtain ⟨_, _, rfl, rfl, _, _, rfl, rfl, _, _, rfl, rfl, rfl⟩ := hv
  obtain ⟨t5, d5, e5⟩ := hG.syn
  obtain ⟨t6, d6, e6⟩ := hG.rng
  obtain ⟨x5, c5, r5⟩ := var_cell hg e5
  obtain ⟨x6, c6, r6⟩ := var_cell hg e6
  simp only [Rel] at r5 r6
  obtain ⟨y5, rfl, _⟩ := r5
  obtain ⟨y6, rfl, _⟩ := r6
  have hsz : (ByteArray.mk ⟨s⟩).size = s.length := rfl
  rcases hb with hp | hp | ⟨u, hp⟩
  · refine (Tryz.strconv_ParseUint_10_at32_syntax ⟨⟨s⟩⟩ (by rw [hsz]; exact hs) hp _ w c5 (.inr ⟨_, _, rfl⟩)).mono fun e w' ⟨N, he, _, _, hw⟩ => ?_
    subst he
    refine ⟨.below hw, _, ⟨_, .iface _ (.raw (.pointer (some ⟨N, 0, none⟩))), rfl, fun n hn => (by rw [hp] at hn; cases hn), fun _ => ⟨_, _, rfl⟩⟩, .ret _ _ (by simp [Rel, RelL, Value.oneCell']; exact ⟨rfl, rfl⟩)⟩
  · refine (Tryz.strconv_ParseUint_10_at32_range ⟨⟨s⟩⟩ (by rw [hsz]; exact hs) hp _ w c6 (.inr ⟨_, _, rfl⟩)).mono fun e w' ⟨N, he, _, _, hw⟩ => ?_
    subst he
    refine ⟨.below hw, _, ⟨_, .iface _ (.raw (.pointer (some ⟨N, 0, none⟩))), rfl, fun n hn => (by rw [hp] at hn; cases hn), fun _ => ⟨_, _, rfl⟩⟩, .ret _ _ (by simp [Rel, RelL, Value.oneCell']; exact ⟨rfl, rfl⟩)⟩
  · refine (Tryz.strconv_ParseUint_10_at32_ok ⟨⟨s⟩⟩ (by rw [hsz]; omega) u hp w).mono fun e w' ⟨he, hw⟩ => ?_
    subst he
    refine ⟨hw.elim (fun h => h ▸ .refl _) (fun h => h ▸ .bytes _ _ _), _, ⟨u, .nilIface, rfl, ?_, fun h => absurd hp (h u)⟩, .ret _ _ (by simp [Rel, RelL])⟩
    intro n' hn'; rw [hp] at hn'; cases hn'; exact ⟨rfl, rfl⟩
end
end Go.Dl

-- Chapter 2: tokens: the plain laws, part 9: numbers by the library's reading; letters.
namespace Go.Dl
open Go
set_option maxRecDepth 10000

def decA (acc : Nat) (w : List UInt8) : Nat := w.foldl (fun v c => 10 * v + (c.toNat - 48)) acc
theorem decA_ge : ∀ (w : List UInt8) (acc : Nat), acc ≤ decA acc w
  | [], _ => Nat.le_refl _
  | c :: w, acc => by
    have := decA_ge w (10 * acc + (c.toNat - 48))
    show acc ≤ decA (10 * acc + (c.toNat - 48)) w
    omega
theorem digit_iff (c : UInt8) : digitB c = true ↔ 48 ≤ c.toNat ∧ c.toNat ≤ 57 := by simp [digitB]
theorem parse_ok : ∀ (w : List UInt8) (acc u : Nat), Lib.parseUintM 4294967295 acc w = .ok u → w.all digitB = true ∧ decA acc w = u
  | [], acc, u, h => by simp only [Lib.parseUintM] at h; cases h; exact ⟨rfl, rfl⟩
  | c :: w, acc, u, h => by
    simp only [Lib.parseUintM] at h
    split at h
    · rename_i hd
      split at h
      · cases h
      · split at h
        · cases h
        · have := parse_ok w _ u h
          rw [Nat.mul_comm acc 10] at this
          exact ⟨by rw [List.all_cons, (digit_iff c).2 hd, this.1]; rfl, this.2⟩
    · cases h
theorem ok_parse : ∀ (w : List UInt8) (acc : Nat), w.all digitB = true → decA acc w ≤ 4294967295 → Lib.parseUintM 4294967295 acc w = .ok (decA acc w)
  | [], acc, _, _ => rfl
  | c :: w, acc, hd, hv => by
    rw [List.all_cons, Bool.and_eq_true] at hd
    have hge := decA_ge w (10 * acc + (c.toNat - 48))
    have hv' : decA (10 * acc + (c.toNat - 48)) w ≤ 4294967295 := hv
    simp only [Lib.parseUintM]
    rw [if_pos ((digit_iff c).1 hd.1), if_neg (by omega), if_neg (by omega), Nat.mul_comm acc 10, ok_parse w _ hd.2 hv']
    rfl
/-- The value by the library's reading. -/
theorem intV_some {w : List UInt8} {u : Nat} (h : Lib.parseUintB 32 w = .ok u) : intV w = if w.length ≤ 10 ∧ u ≤ 2147483647 then some u else none := by
  unfold Lib.parseUintB at h
  split at h
  · cases h
  · obtain ⟨h1, h2⟩ := parse_ok w 0 u h
    have hv : decV w = u := h2
    rw [intV, hv]
    by_cases hc : w.length ≤ 10 ∧ u ≤ 2147483647
    · rw [if_pos ⟨hc.1, h1, hc.2⟩, if_pos hc]
    · rw [if_neg (fun h => hc ⟨h.1, h.2.2⟩), if_neg hc]
theorem intV_none {w : List UInt8} (hne : w ≠ []) (h : ∀ u, Lib.parseUintB 32 w ≠ .ok u) : intV w = none := by
  rw [intV, if_neg]
  rintro ⟨_, h2, h3⟩
  refine h (decV w) ?_
  rw [Lib.parseUintB, if_neg hne]
  exact ok_parse w 0 h2 (show decV w ≤ 4294967295 by omega)
theorem word_all {s : List UInt8} : (wordL s = s) ↔ s.all wordB = true := by
  constructor
  · intro h
    have : ∀ l : List UInt8, (l.takeWhile wordB).all wordB = true := fun l => by
      induction l with
      | nil => rfl
      | cons c l ih =>
        rw [List.takeWhile_cons]
        split
        · rename_i hc; rw [List.all_cons, hc, ih]; rfl
        · rfl
    rw [← h]; exact this s
  · exact take_all s
theorem name_eq (s : List UInt8) : nameB s = (decide (s ≠ []) && (decide (s.length ≤ 32) && ((match s with | c :: _ => letterB c | [] => false) && (decide (wordL s = s) && !keyB s)))) := by
  have hw : decide (wordL s = s) = s.all wordB := by
    cases h : s.all wordB with
    | true => exact decide_eq_true (word_all.2 h)
    | false => exact decide_eq_false fun e => by rw [word_all.1 e] at h; cases h
  rw [hw]
  unfold nameB
  match s with
  | [] => rfl
  | c :: r =>
    simp only [ne_eq, reduceCtorEq, not_false_eq_true, decide_true, Bool.true_and]
    cases letterB c <;> cases decide ((c :: r).length ≤ 32) <;> cases (c :: r).all wordB <;> cases keyB (c :: r) <;> rfl
/-- How far the word goes. -/
theorem word_at {s : List UInt8} {k : Nat} {c : UInt8} (h : (s.take k).all wordB = true) (hc : s[k]? = some c) (hw : wordB c = false) : wordL s = s.take k := by
  obtain ⟨hk, rfl⟩ := List.getElem?_eq_some_iff.1 hc
  have e : s = s.take k ++ s[k] :: s.drop (k + 1) := by rw [← List.drop_eq_getElem_cons hk, List.take_append_drop]
  rw [show wordL s = wordL (s.take k ++ s[k] :: s.drop (k + 1)) from congrArg wordL e, word_app _ _ _ hw, take_all _ h]
theorem low_letter : ∀ n : Fin 256, letterB (UInt8.ofNat n.1) = (decide (97 ≤ n.1 ||| 32) && decide (n.1 ||| 32 ≤ 122)) := by decide +kernel
end Go.Dl

-- Chapter 2: letters, digits, words, reserved words, names, symbols.
namespace Go.Dl
open Go Go.Proofs
set_option maxRecDepth 10000

/-- What the package's variables hold. -/
structure GX (G : Nat → DVal) : Prop where
  pow : G 2 = .vptr dPw 0
  space : G 1 = .vptr (Lib.asciiSpaceTab.map fun z => .int .u8 z) 0
  gt : GT G

theorem or32 : ∀ n : Fin 256, IntKind.u8.wrap (((BitVec.ofInt 8 ((n.1 : Nat) : Int) ||| BitVec.ofInt 8 32).toNat : Nat) : Int) = ((n.1 ||| 32 : Nat) : Int) := by decide +kernel
section
variable {G : Nat → DVal} {H : DHeap}
theorem letter_spec (G : Nat → DVal) (H : DHeap) (b : UInt8) : DCalls Tryz.prog G 42 [.int .u8 b.toNat] H (DRet (.bool (letterB b)) H) := by
  have hor := or32 ⟨b.toNat, b.toNat_lt⟩
  have hl := low_letter ⟨b.toNat, b.toNat_lt⟩
  dsimp only at hor hl
  rw [UInt8.ofNat_toNat] at hl
  rw [hl]
  clear hl
  generalize b.toNat ||| 32 = m at hor ⊢
  refine dcalls_intro Tryz.func42 Tryz.call42 rfl (by kernel_rfl) ?_
  simp (disch := omega) only [go_sem, Nat.reduceEqDiff, Nat.reduceAdd, Nat.reduceMul, Nat.reduceSub, Nat.reduceLeDiff, ↓reduceIte, reduceCtorEq, Int.reduceAdd, Int.reduceSub, Int.reduceMul, Int.reduceNeg, Int.reduceToNat, List.reduceReplicate, String.reduceEq]
  generalize hm : IntKind.u8.wrap _ = z
  have hz : z = (m : Int) := hm.symm.trans hor
  subst hz
  by_cases h1 : 97 ≤ m
  · have h1' : (97 : Int) ≤ (m : Int) := by omega
    simp (disch := omega) only [go_sem, Nat.reduceEqDiff, Nat.reduceAdd, Nat.reduceMul, Nat.reduceSub, Nat.reduceLeDiff, ↓reduceIte, reduceCtorEq, Int.reduceAdd, Int.reduceSub, Int.reduceMul, Int.reduceNeg, Int.reduceToNat, List.reduceReplicate, String.reduceEq, h1']
    generalize hm2 : IntKind.u8.wrap _ = z
    have hz : z = (m : Int) := hm2.symm.trans hor
    subst hz
    refine DFin.refl ⟨?_, rfl⟩
    rw [decide_eq_decide.2 (show (m : Int) ≤ 122 ↔ m ≤ 122 by omega)]
  · have h1' : ¬ (97 : Int) ≤ (m : Int) := by omega
    simp (disch := omega) only [go_sem, Nat.reduceEqDiff, Nat.reduceAdd, Nat.reduceMul, Nat.reduceSub, Nat.reduceLeDiff, ↓reduceIte, reduceCtorEq, Int.reduceAdd, Int.reduceSub, Int.reduceMul, Int.reduceNeg, Int.reduceToNat, List.reduceReplicate, String.reduceEq, h1']
    exact DFin.refl ⟨rfl, rfl⟩
theorem digit_spec (G : Nat → DVal) (H : DHeap) (b : UInt8) : DCalls Tryz.prog G 72 [.int .u8 b.toNat] H (DRet (.bool (digitB b)) H) := by
  refine dcalls_intro Tryz.func72 Tryz.call72 rfl (by kernel_rfl) ?_
  by_cases h1 : 48 ≤ b.toNat
  · have h1' : (48 : Int) ≤ (b.toNat : Int) := by omega
    simp (disch := omega) only [go_sem, Nat.reduceEqDiff, Nat.reduceAdd, Nat.reduceMul, Nat.reduceSub, Nat.reduceLeDiff, ↓reduceIte, reduceCtorEq, Int.reduceAdd, Int.reduceSub, Int.reduceMul, Int.reduceNeg, Int.reduceToNat, List.reduceReplicate, String.reduceEq, h1']
    refine DFin.refl ⟨?_, rfl⟩
    rw [digitB, decide_eq_decide.2 (show (b.toNat : Int) ≤ 57 ↔ b.toNat ≤ 57 by omega), decide_eq_true h1, Bool.true_and]
  · have h1' : ¬ (48 : Int) ≤ (b.toNat : Int) := by omega
    simp (disch := omega) only [go_sem, Nat.reduceEqDiff, Nat.reduceAdd, Nat.reduceMul, Nat.reduceSub, Nat.reduceLeDiff, ↓reduceIte, reduceCtorEq, Int.reduceAdd, Int.reduceSub, Int.reduceMul, Int.reduceNeg, Int.reduceToNat, List.reduceReplicate, String.reduceEq, h1']
    refine DFin.refl ⟨?_, rfl⟩
    rw [digitB, decide_eq_false h1]; rfl
theorem isNaN_spec (G : Nat → DVal) (H : DHeap) (s : List UInt8) : DCalls Tryz.prog G 100 [.str s] H (DRet (.bool false) H) := by
  refine dcalls_intro Tryz.func100 Tryz.call100 rfl (by kernel_rfl) ?_
  simp (disch := omega) only [go_sem, Nat.reduceEqDiff, Nat.reduceAdd, Nat.reduceMul, Nat.reduceSub, Nat.reduceLeDiff, ↓reduceIte, reduceCtorEq, Int.reduceAdd, Int.reduceSub, Int.reduceMul, Int.reduceNeg, Int.reduceToNat, List.reduceReplicate, String.reduceEq]
  exact DFin.refl ⟨rfl, rfl⟩
theorem isNaN2_spec (G : Nat → DVal) (H : DHeap) (s : List UInt8) : DCalls Tryz.prog G 75 [.str s] H (DRet (.bool false) H) := by
  refine dcalls_intro Tryz.func75 Tryz.call75 rfl (by kernel_rfl) ?_
  simp (disch := omega) only [go_sem, Nat.reduceEqDiff, Nat.reduceAdd, Nat.reduceMul, Nat.reduceSub, Nat.reduceLeDiff, ↓reduceIte, reduceCtorEq, Int.reduceAdd, Int.reduceSub, Int.reduceMul, Int.reduceNeg, Int.reduceToNat, List.reduceReplicate, String.reduceEq]
  exact DFin.refl ⟨rfl, rfl⟩
theorem less_spec (G : Nat → DVal) (H : DHeap) (s t : List UInt8) : DCalls Tryz.prog G 74 [.str s, .str t] H (DRet (.bool (Go.Op.bytesLess s t)) H) := by
  refine dcalls_intro Tryz.func74 Tryz.call74 rfl (by kernel_rfl) ?_
  simp (disch := omega) only [go_sem, Nat.reduceEqDiff, Nat.reduceAdd, Nat.reduceMul, Nat.reduceSub, Nat.reduceLeDiff, ↓reduceIte, reduceCtorEq, Int.reduceAdd, Int.reduceSub, Int.reduceMul, Int.reduceNeg, Int.reduceToNat, List.reduceReplicate, String.reduceEq]
  refine (isNaN_spec G _ s).mono ?_
  rintro _ H ⟨rfl, rfl⟩
  simp (disch := omega) only [go_sem, Nat.reduceEqDiff, Nat.reduceAdd, Nat.reduceMul, Nat.reduceSub, Nat.reduceLeDiff, ↓reduceIte, reduceCtorEq, Int.reduceAdd, Int.reduceSub, Int.reduceMul, Int.reduceNeg, Int.reduceToNat, List.reduceReplicate, String.reduceEq]
  exact DFin.refl ⟨rfl, rfl⟩
theorem search_spec (G : Nat → DVal) (H : DHeap) (l : List (List UInt8)) (s : List UInt8) (hl : l.Pairwise fun a b => Go.Op.bytesLess a b = true) (hn : l.length ≤ 1000000) :
    DCalls Tryz.prog G 46 [dStrs l, .str s] H (fun e H' => (∃ i : Nat, e = .ret (.tuple [dI i, .bool (decide (s ∈ l))])) ∧ H' = H) := by
  refine dcalls_intro Tryz.func46 Tryz.call46 rfl (by kernel_rfl) ?_
  simp (disch := omega) only [go_sem, Nat.reduceEqDiff, Nat.reduceAdd, Nat.reduceMul, Nat.reduceSub, Nat.reduceLeDiff, ↓reduceIte, reduceCtorEq, Int.reduceAdd, Int.reduceSub, Int.reduceMul, Int.reduceNeg, Int.reduceToNat, List.reduceReplicate, String.reduceEq, dStrs]
  obtain ⟨I, hI⟩ : ∃ I : Nat × Nat → (Nat → DVal) → DHeap → Prop, ∀ p env heap, I p env heap ↔ (env 0 = .vslice (l.map .str) l.length ∧ env 1 = .str s ∧ env 6 = dI l.length ∧ env 7 = dI p.1 ∧ env 8 = dI p.2 ∧ halfAt l s p.1 p.2 ∧ heap = H) := ⟨_, fun _ _ _ => Iff.rfl⟩
  refine DLoop.run I (fun p => p.2 - p.1) (0, l.length) ((hI _ _ _).2 ?_) ?_
  · simp (disch := omega) only [go_sem, Nat.reduceEqDiff, Nat.reduceAdd, Nat.reduceMul, Nat.reduceSub, Nat.reduceLeDiff, ↓reduceIte, reduceCtorEq, Int.reduceAdd, Int.reduceSub, Int.reduceMul, Int.reduceNeg, Int.reduceToNat, List.reduceReplicate, String.reduceEq]
    (repeat' apply And.intro) <;> (try first | rfl | assumption | omega)
    exact half_start l s
  · rintro ⟨i, j⟩ env heap hi
    obtain ⟨e0, e1, e6, e7, e8, hh, rfl⟩ := (hI _ _ _).1 hi
    dsimp only at e7 e8 hh
    have hh1 := hh.le; have hh2 := hh.len
    by_cases hlt : i < j
    · have hm : (i + j) / 2 < l.length := by omega
      have w1 : IntKind.u64.wrap ((i : Int) + (j : Int)) = ((i + j : Nat) : Int) := by rw [IntKind.wrap_u64]; omega
      have w2 : (((i + j : Nat)) : Int).fdiv (2 ^ min 1 64) = (((i + j) / 2 : Nat) : Int) := by rw [show (2 : Int) ^ min 1 64 = 2 from rfl, Int.fdiv_eq_ediv_of_nonneg _ (by omega)]; omega
      have w3 : IntKind.i64.wrap ((((i + j) / 2 : Nat)) : Int) = (((i + j) / 2 : Nat) : Int) := by rw [IntKind.wrap_i64]; omega
      have hg : (l.map DVal.str)[(i + j) / 2]? = some (.str l[(i + j) / 2]) := by rw [List.getElem?_map, List.getElem?_eq_getElem hm]; rfl
      simp (disch := omega) only [go_sem, Nat.reduceEqDiff, Nat.reduceAdd, Nat.reduceMul, Nat.reduceSub, Nat.reduceLeDiff, ↓reduceIte, reduceCtorEq, Int.reduceAdd, Int.reduceSub, Int.reduceMul, Int.reduceNeg, Int.reduceToNat, List.reduceReplicate, String.reduceEq, e0, e1, e6, e7, e8, hlt, w1, w2, w3, hg, hm]
      refine (less_spec G _ l[(i + j) / 2] s).mono ?_
      rintro _ H1 ⟨rfl, rfl⟩
      cases hb : Go.Op.bytesLess l[(i + j) / 2] s with
      | true =>
        simp (disch := omega) only [go_sem, Nat.reduceEqDiff, Nat.reduceAdd, Nat.reduceMul, Nat.reduceSub, Nat.reduceLeDiff, ↓reduceIte, reduceCtorEq, Int.reduceAdd, Int.reduceSub, Int.reduceMul, Int.reduceNeg, Int.reduceToNat, List.reduceReplicate, String.reduceEq, e0, e1, e6, e7, e8]
        refine ⟨((i + j) / 2 + 1, j), _, GhostS.refl _, (hI _ _ _).2 ?_, by dsimp only; omega⟩
        simp (disch := omega) only [go_sem, Nat.reduceEqDiff, Nat.reduceAdd, Nat.reduceMul, Nat.reduceSub, Nat.reduceLeDiff, ↓reduceIte, reduceCtorEq, Int.reduceAdd, Int.reduceSub, Int.reduceMul, Int.reduceNeg, Int.reduceToNat, List.reduceReplicate, String.reduceEq, e0, e1, e6, e7, e8]
        (repeat' apply And.intro) <;> (try first | rfl | assumption | omega)
        exact half_up hl hh (by omega) (List.getElem?_eq_getElem hm) hb
      | false =>
        simp (disch := omega) only [go_sem, Nat.reduceEqDiff, Nat.reduceAdd, Nat.reduceMul, Nat.reduceSub, Nat.reduceLeDiff, ↓reduceIte, reduceCtorEq, Int.reduceAdd, Int.reduceSub, Int.reduceMul, Int.reduceNeg, Int.reduceToNat, List.reduceReplicate, String.reduceEq, e0, e1, e6, e7, e8]
        refine ⟨(i, (i + j) / 2), _, GhostS.refl _, (hI _ _ _).2 ?_, by dsimp only; omega⟩
        simp (disch := omega) only [go_sem, Nat.reduceEqDiff, Nat.reduceAdd, Nat.reduceMul, Nat.reduceSub, Nat.reduceLeDiff, ↓reduceIte, reduceCtorEq, Int.reduceAdd, Int.reduceSub, Int.reduceMul, Int.reduceNeg, Int.reduceToNat, List.reduceReplicate, String.reduceEq, e0, e1, e6, e7, e8]
        (repeat' apply And.intro) <;> (try first | rfl | assumption | omega)
        exact half_down hl hh (by omega) (by omega) (List.getElem?_eq_getElem hm) hb
    · have : i = j := by omega
      subst this
      have hend := half_end hh
      by_cases hi : i < l.length
      · have hi' : (i : Int) < (l.length : Int) := by omega
        have hg : (l.map DVal.str)[i]? = some (.str l[i]) := by rw [List.getElem?_map, List.getElem?_eq_getElem hi]; rfl
        rw [List.getElem?_eq_getElem hi] at hend
        by_cases hw : l[i] = s
        · simp (disch := omega) only [go_sem, Nat.reduceEqDiff, Nat.reduceAdd, Nat.reduceMul, Nat.reduceSub, Nat.reduceLeDiff, ↓reduceIte, reduceCtorEq, Int.reduceAdd, Int.reduceSub, Int.reduceMul, Int.reduceNeg, Int.reduceToNat, List.reduceReplicate, String.reduceEq, e0, e1, e6, e7, e8, hi', hi, hg, hw]
          refine DFin.refl ⟨⟨i, ?_⟩, rfl⟩
          rw [hend, hw]; simp
        · simp (disch := omega) only [go_sem, Nat.reduceEqDiff, Nat.reduceAdd, Nat.reduceMul, Nat.reduceSub, Nat.reduceLeDiff, ↓reduceIte, reduceCtorEq, Int.reduceAdd, Int.reduceSub, Int.reduceMul, Int.reduceNeg, Int.reduceToNat, List.reduceReplicate, String.reduceEq, e0, e1, e6, e7, e8, hi', hi, hg, hw]
          refine (isNaN2_spec G _ l[i]).mono ?_
          rintro _ H1 ⟨rfl, rfl⟩
          simp (disch := omega) only [go_sem, Nat.reduceEqDiff, Nat.reduceAdd, Nat.reduceMul, Nat.reduceSub, Nat.reduceLeDiff, ↓reduceIte, reduceCtorEq, Int.reduceAdd, Int.reduceSub, Int.reduceMul, Int.reduceNeg, Int.reduceToNat, List.reduceReplicate, String.reduceEq, e0, e1, e6, e7, e8, hi', hi, hg, hw]
          refine DFin.refl ⟨⟨i, ?_⟩, rfl⟩
          rw [hend]; simp [hw]
      · have hi' : ¬ (i : Int) < (l.length : Int) := by omega
        rw [List.getElem?_eq_none (by omega)] at hend
        simp (disch := omega) only [go_sem, Nat.reduceEqDiff, Nat.reduceAdd, Nat.reduceMul, Nat.reduceSub, Nat.reduceLeDiff, ↓reduceIte, reduceCtorEq, Int.reduceAdd, Int.reduceSub, Int.reduceMul, Int.reduceNeg, Int.reduceToNat, List.reduceReplicate, String.reduceEq, e0, e1, e6, e7, e8, hi']
        refine DFin.refl ⟨⟨i, ?_⟩, rfl⟩
        rw [hend]; simp
/-- The runes of a string: a byte below 128 is itself; the others are 128 or greater. -/
theorem rune_low {s : List UInt8} {k : Nat} {c : UInt8} (h : s[k]? = some c) (hc : c.toNat < 128) : runeAt s k = (c.toNat, 1) := by
  obtain ⟨hk, rfl⟩ := List.getElem?_eq_some_iff.1 h
  exact Go.decode_ascii ⟨⟨s⟩⟩ k hk hc
theorem rune_high {s : List UInt8} {k : Nat} {c : UInt8} (h : s[k]? = some c) (hc : 128 ≤ c.toNat) : 128 ≤ (runeAt s k).1 := by
  obtain ⟨hk, rfl⟩ := List.getElem?_eq_some_iff.1 h
  exact (Go.decode_high ⟨⟨s⟩⟩ k hk hc).1
theorem high_word {c : UInt8} (h : 126 < c.toNat) : wordB c = false := by
  cases hw : wordB c with
  | false => rfl
  | true => have := (word_char hw).2; omega
set_option maxHeartbeats 1000000 in
theorem word_spec (G : Nat → DVal) (H : DHeap) (s : List UInt8) (hs : s.length ≤ 1000000000) : DCalls Tryz.prog G 43 [.str s] H (DRet (.str (wordL s)) H) := by
  refine dcalls_intro Tryz.func43 Tryz.call43 rfl (by kernel_rfl) ?_
  simp (disch := omega) only [go_sem, Nat.reduceEqDiff, Nat.reduceAdd, Nat.reduceMul, Nat.reduceSub, Nat.reduceLeDiff, ↓reduceIte, reduceCtorEq, Int.reduceAdd, Int.reduceSub, Int.reduceMul, Int.reduceNeg, Int.reduceToNat, List.reduceReplicate, String.reduceEq]
  intro r hr
  obtain ⟨I, hI⟩ : ∃ I : Nat → (Nat → DVal) → DHeap → Prop, ∀ k env heap, I k env heap ↔ (env 0 = .str s ∧ env 6 = .optr r 0 ∧ (s.take k).all wordB = true ∧ k ≤ s.length ∧ heap = upd H r (some (.iter s k))) := ⟨_, fun _ _ _ => Iff.rfl⟩
  refine DLoop.run I (fun k => s.length - k) 0 ((hI _ _ _).2 ?_) ?_
  · simp (disch := omega) only [go_sem, Nat.reduceEqDiff, Nat.reduceAdd, Nat.reduceMul, Nat.reduceSub, Nat.reduceLeDiff, ↓reduceIte, reduceCtorEq, Int.reduceAdd, Int.reduceSub, Int.reduceMul, Int.reduceNeg, Int.reduceToNat, List.reduceReplicate, String.reduceEq]
  · intro k env heap hi
    obtain ⟨e0, e6, hw, hk, rfl⟩ := (hI _ _ _).1 hi
    by_cases hlt : k < s.length
    · have hg : s[k]? = some s[k] := List.getElem?_eq_getElem hlt
      have hend : wordB s[k] = false → wordL s = s.take k := fun h => word_at hw hg h
      have hstep : wordB s[k] = true → (s.take (k + 1)).all wordB = true := fun h => by
        rw [List.take_add_one, hg, List.all_append, hw]; simpa using h
      have hki : (k : Int) ≤ (s.length : Int) := by omega
      by_cases h126 : s[k].toNat ≤ 126
      · have hrn := rune_low hg (by omega)
        have h126' : ¬ (126 : Int) < (s[k].toNat : Int) := by omega
        have hwr : IntKind.u8.wrap (s[k].toNat : Int) = (s[k].toNat : Int) := by rw [IntKind.wrap_u8]; have := s[k].toNat_lt; omega
        simp (disch := omega) only [go_sem, Nat.reduceEqDiff, Nat.reduceAdd, Nat.reduceMul, Nat.reduceSub, Nat.reduceLeDiff, ↓reduceIte, reduceCtorEq, Int.reduceAdd, Int.reduceSub, Int.reduceMul, Int.reduceNeg, Int.reduceToNat, List.reduceReplicate, String.reduceEq, e0, e6, hlt, hrn, h126', hwr]
        refine (letter_spec G _ s[k]).mono ?_
        rintro _ H1 ⟨rfl, rfl⟩
        cases hle : letterB s[k] with
        | true =>
          simp (disch := omega) only [go_sem, Nat.reduceEqDiff, Nat.reduceAdd, Nat.reduceMul, Nat.reduceSub, Nat.reduceLeDiff, ↓reduceIte, reduceCtorEq, Int.reduceAdd, Int.reduceSub, Int.reduceMul, Int.reduceNeg, Int.reduceToNat, List.reduceReplicate, String.reduceEq, e0, e6, hlt, hrn, h126', hwr]
          refine ⟨k + 1, _, GhostS.refl _, (hI _ _ _).2 ?_, by omega⟩
          simp (disch := omega) only [go_sem, Nat.reduceEqDiff, Nat.reduceAdd, Nat.reduceMul, Nat.reduceSub, Nat.reduceLeDiff, ↓reduceIte, reduceCtorEq, Int.reduceAdd, Int.reduceSub, Int.reduceMul, Int.reduceNeg, Int.reduceToNat, List.reduceReplicate, String.reduceEq, e0, e6]
          (repeat' apply And.intro) <;> (try first | rfl | assumption | omega)
          exact hstep (letter_word hle)
        | false =>
          simp (disch := omega) only [go_sem, Nat.reduceEqDiff, Nat.reduceAdd, Nat.reduceMul, Nat.reduceSub, Nat.reduceLeDiff, ↓reduceIte, reduceCtorEq, Int.reduceAdd, Int.reduceSub, Int.reduceMul, Int.reduceNeg, Int.reduceToNat, List.reduceReplicate, String.reduceEq, e0, e6, hlt, hrn, h126', hwr]
          refine (digit_spec G _ s[k]).mono ?_
          rintro _ H1 ⟨rfl, rfl⟩
          cases hdi : digitB s[k] with
          | true =>
            simp (disch := omega) only [go_sem, Nat.reduceEqDiff, Nat.reduceAdd, Nat.reduceMul, Nat.reduceSub, Nat.reduceLeDiff, ↓reduceIte, reduceCtorEq, Int.reduceAdd, Int.reduceSub, Int.reduceMul, Int.reduceNeg, Int.reduceToNat, List.reduceReplicate, String.reduceEq, e0, e6, hlt, hrn, h126', hwr]
            refine ⟨k + 1, _, GhostS.refl _, (hI _ _ _).2 ?_, by omega⟩
            simp (disch := omega) only [go_sem, Nat.reduceEqDiff, Nat.reduceAdd, Nat.reduceMul, Nat.reduceSub, Nat.reduceLeDiff, ↓reduceIte, reduceCtorEq, Int.reduceAdd, Int.reduceSub, Int.reduceMul, Int.reduceNeg, Int.reduceToNat, List.reduceReplicate, String.reduceEq, e0, e6]
            (repeat' apply And.intro) <;> (try first | rfl | assumption | omega)
            exact hstep (digit_word hdi)
          | false =>
            by_cases h95 : s[k] = 95
            · have h95' : (s[k].toNat : Int) = 95 := by rw [h95]; rfl
              simp (disch := omega) only [go_sem, Nat.reduceEqDiff, Nat.reduceAdd, Nat.reduceMul, Nat.reduceSub, Nat.reduceLeDiff, ↓reduceIte, reduceCtorEq, Int.reduceAdd, Int.reduceSub, Int.reduceMul, Int.reduceNeg, Int.reduceToNat, List.reduceReplicate, String.reduceEq, e0, e6, hlt, hrn, h126', hwr, h95']
              refine ⟨k + 1, _, GhostS.refl _, (hI _ _ _).2 ?_, by omega⟩
              simp (disch := omega) only [go_sem, Nat.reduceEqDiff, Nat.reduceAdd, Nat.reduceMul, Nat.reduceSub, Nat.reduceLeDiff, ↓reduceIte, reduceCtorEq, Int.reduceAdd, Int.reduceSub, Int.reduceMul, Int.reduceNeg, Int.reduceToNat, List.reduceReplicate, String.reduceEq, e0, e6]
              (repeat' apply And.intro) <;> (try first | rfl | assumption | omega)
              exact hstep (by rw [h95]; rfl)
            · have h95' : ¬ (s[k].toNat : Int) = 95 := toNat_ne (d := 95) h95
              simp (disch := omega) only [go_sem, Nat.reduceEqDiff, Nat.reduceAdd, Nat.reduceMul, Nat.reduceSub, Nat.reduceLeDiff, ↓reduceIte, reduceCtorEq, Int.reduceAdd, Int.reduceSub, Int.reduceMul, Int.reduceNeg, Int.reduceToNat, List.reduceReplicate, String.reduceEq, e0, e6, hlt, hrn, h126', hwr, h95', hki]
              refine DFin.dropA r hr (DFin.refl ⟨?_, rfl⟩)
              rw [hend (by simp [wordB, hle, hdi, h95])]
              simp
      · have hlo : 126 < ((runeAt s k).1 : Int) := by
          by_cases h128 : s[k].toNat < 128
          · rw [rune_low hg h128]; dsimp only; omega
          · have := rune_high hg (by omega); omega
        simp (disch := omega) only [go_sem, Nat.reduceEqDiff, Nat.reduceAdd, Nat.reduceMul, Nat.reduceSub, Nat.reduceLeDiff, ↓reduceIte, reduceCtorEq, Int.reduceAdd, Int.reduceSub, Int.reduceMul, Int.reduceNeg, Int.reduceToNat, List.reduceReplicate, String.reduceEq, e0, e6, hlt, hlo, hki]
        refine DFin.dropA r hr (DFin.refl ⟨?_, rfl⟩)
        rw [hend (high_word (by omega))]
        simp
    · have : k = s.length := by omega
      subst this
      simp (disch := omega) only [go_sem, Nat.reduceEqDiff, Nat.reduceAdd, Nat.reduceMul, Nat.reduceSub, Nat.reduceLeDiff, ↓reduceIte, reduceCtorEq, Int.reduceAdd, Int.reduceSub, Int.reduceMul, Int.reduceNeg, Int.reduceToNat, List.reduceReplicate, String.reduceEq, e0, e6, hlt]
      refine DFin.dropA r hr (DFin.refl ⟨?_, rfl⟩)
      rw [List.take_length] at hw
      rw [word_all.2 hw]
end
end Go.Dl

-- Chapter 2: reserved words, names, symbols, valid tokens.
namespace Go.Dl
open Go Go.Proofs
set_option maxRecDepth 100000

section
variable {G : Nat → DVal} {H : DHeap}
def keysLit : List UInt8 := [97, 98, 111, 114, 116, 32, 97, 98, 115, 32, 97, 99, 99, 101, 112, 116, 32, 97, 99, 99, 101, 115, 115, 32, 97, 108, 105, 97, 115, 101, 100, 32, 97, 108, 108, 32, 97, 110, 100, 32, 97, 114, 114, 97, 121, 32, 98, 101, 103, 105, 110, 32, 98, 111, 100, 121, 32, 99, 97, 115, 101, 32, 99, 111, 110, 115, 116, 97, 110, 116, 32, 100, 101, 99, 108, 97, 114, 101, 32, 100, 101, 108, 97, 121, 32, 100, 111, 32, 101, 108, 115, 101, 32, 101, 108, 115, 105, 102, 32, 101, 110, 100, 32, 101, 110, 116, 114, 121, 32, 101, 120, 99, 101, 112, 116, 105, 111, 110, 32, 101, 120, 105, 116, 32, 102, 111, 114, 32, 102, 117, 110, 99, 116, 105, 111, 110, 32, 103, 101, 110, 101, 114, 105, 99, 32, 105, 102, 32, 105, 110, 32, 105, 115, 32, 108, 105, 109, 105, 116, 101, 100, 32, 108, 111, 111, 112, 32, 109, 111, 100, 32, 110, 101, 119, 32, 110, 111, 116, 32, 110, 117, 108, 108, 32, 111, 102, 32, 111, 114, 32, 111, 116, 104, 101, 114, 115, 32, 111, 117, 116, 32, 112, 97, 99, 107, 97, 103, 101, 32, 112, 114, 97, 103, 109, 97, 32, 112, 114, 105, 118, 97, 116, 101, 32, 112, 114, 111, 99, 101, 100, 117, 114, 101, 32, 112, 114, 111, 116, 101, 99, 116, 101, 100, 32, 114, 97, 105, 115, 101, 32, 114, 97, 110, 103, 101, 32, 114, 101, 99, 111, 114, 100, 32, 114, 101, 109, 32, 114, 101, 110, 97, 109, 101, 115, 32, 114, 101, 113, 117, 101, 117, 101, 32, 114, 101, 116, 117, 114, 110, 32, 114, 101, 118, 101, 114, 115, 101, 32, 115, 101, 108, 101, 99, 116, 32, 115, 101, 112, 97, 114, 97, 116, 101, 32, 115, 117, 98, 116, 121, 112, 101, 32, 116, 97, 115, 107, 32, 116, 101, 114, 109, 105, 110, 97, 116, 101, 32, 116, 104, 101, 110, 32, 116, 121, 112, 101, 32, 117, 110, 116, 105, 108, 32, 117, 115, 101, 32, 119, 104, 101, 110, 32, 119, 104, 105, 108, 101, 32, 119, 105, 116, 104, 32, 120, 111, 114]
theorem keysLit_low : ∀ b ∈ keysLit, b.toNat < 128 := by decide +kernel
theorem fields_lit : Lib.fields keysLit = keysL := by kernel_rfl
theorem keys_spec (hG : GX G) (H : DHeap) : DCalls Tryz.prog G 47 [] H (DRet (dStrs keysL) H) := by
  refine dcalls_intro Tryz.func47 Tryz.call47 rfl (by kernel_rfl) ?_
  simp (disch := omega) only [go_sem, Nat.reduceEqDiff, Nat.reduceAdd, Nat.reduceMul, Nat.reduceSub, Nat.reduceLeDiff, ↓reduceIte, reduceCtorEq, Int.reduceAdd, Int.reduceSub, Int.reduceMul, Int.reduceNeg, Int.reduceToNat, List.reduceReplicate, String.reduceEq]
  show DCalls _ _ _ [.str keysLit] _ _
  refine (flds_spec hG.space keysLit (by decide +kernel) (fun j b h => keysLit_low b (List.mem_of_getElem? h))).mono ?_
  rintro _ H1 ⟨rfl, rfl⟩
  rw [fields_lit]
  simp (disch := omega) only [go_sem, Nat.reduceEqDiff, Nat.reduceAdd, Nat.reduceMul, Nat.reduceSub, Nat.reduceLeDiff, ↓reduceIte, reduceCtorEq, Int.reduceAdd, Int.reduceSub, Int.reduceMul, Int.reduceNeg, Int.reduceToNat, List.reduceReplicate, String.reduceEq]
  exact DFin.refl ⟨rfl, rfl⟩
theorem key_spec (hG : GX G) (H : DHeap) (s : List UInt8) : DCalls Tryz.prog G 15 [.str s] H (DRet (.bool (keyB s)) H) := by
  refine dcalls_intro Tryz.func15 Tryz.call15 rfl (by kernel_rfl) ?_
  simp (disch := omega) only [go_sem, Nat.reduceEqDiff, Nat.reduceAdd, Nat.reduceMul, Nat.reduceSub, Nat.reduceLeDiff, ↓reduceIte, reduceCtorEq, Int.reduceAdd, Int.reduceSub, Int.reduceMul, Int.reduceNeg, Int.reduceToNat, List.reduceReplicate, String.reduceEq]
  refine (keys_spec hG _).mono ?_
  rintro _ H1 ⟨rfl, rfl⟩
  simp (disch := omega) only [go_sem, Nat.reduceEqDiff, Nat.reduceAdd, Nat.reduceMul, Nat.reduceSub, Nat.reduceLeDiff, ↓reduceIte, reduceCtorEq, Int.reduceAdd, Int.reduceSub, Int.reduceMul, Int.reduceNeg, Int.reduceToNat, List.reduceReplicate, String.reduceEq]
  refine (search_spec G _ keysL s keys_sorted (by decide)).mono ?_
  rintro _ H2 ⟨⟨i, rfl⟩, rfl⟩
  simp (disch := omega) only [go_sem, Nat.reduceEqDiff, Nat.reduceAdd, Nat.reduceMul, Nat.reduceSub, Nat.reduceLeDiff, ↓reduceIte, reduceCtorEq, Int.reduceAdd, Int.reduceSub, Int.reduceMul, Int.reduceNeg, Int.reduceToNat, List.reduceReplicate, String.reduceEq]
  exact DFin.refl ⟨rfl, rfl⟩
theorem name_spec2 (hG : GX G) (H : DHeap) (s : List UInt8) (hs : s.length ≤ 9223372036854775807) : DCalls Tryz.prog G 13 [.str s] H (DRet (.bool (nameB s)) H) := by
  refine dcalls_intro Tryz.func13 Tryz.call13 rfl (by kernel_rfl) ?_
  match s with
  | [] =>
    simp (disch := omega) only [go_sem, Nat.reduceEqDiff, Nat.reduceAdd, Nat.reduceMul, Nat.reduceSub, Nat.reduceLeDiff, ↓reduceIte, reduceCtorEq, Int.reduceAdd, Int.reduceSub, Int.reduceMul, Int.reduceNeg, Int.reduceToNat, List.reduceReplicate, String.reduceEq]
    exact DFin.refl ⟨rfl, rfl⟩
  | c :: r =>
    have hne : ¬ (c :: r = []) := by simp
    have h0 : (c :: r)[0]? = some c := rfl
    rw [name_eq]
    by_cases hl : (c :: r).length ≤ 32
    · have hl' : ((c :: r).length : Int) ≤ 32 := by omega
      simp (disch := omega) only [go_sem, Nat.reduceEqDiff, Nat.reduceAdd, Nat.reduceMul, Nat.reduceSub, Nat.reduceLeDiff, ↓reduceIte, reduceCtorEq, Int.reduceAdd, Int.reduceSub, Int.reduceMul, Int.reduceNeg, Int.reduceToNat, List.reduceReplicate, String.reduceEq, hne, hl', h0]
      refine (letter_spec G _ c).mono ?_
      rintro _ H1 ⟨rfl, rfl⟩
      cases hle : letterB c with
      | false =>
        simp (disch := omega) only [go_sem, Nat.reduceEqDiff, Nat.reduceAdd, Nat.reduceMul, Nat.reduceSub, Nat.reduceLeDiff, ↓reduceIte, reduceCtorEq, Int.reduceAdd, Int.reduceSub, Int.reduceMul, Int.reduceNeg, Int.reduceToNat, List.reduceReplicate, String.reduceEq, hne, hl', h0]
        exact DFin.refl ⟨by simp, rfl⟩
      | true =>
        simp (disch := omega) only [go_sem, Nat.reduceEqDiff, Nat.reduceAdd, Nat.reduceMul, Nat.reduceSub, Nat.reduceLeDiff, ↓reduceIte, reduceCtorEq, Int.reduceAdd, Int.reduceSub, Int.reduceMul, Int.reduceNeg, Int.reduceToNat, List.reduceReplicate, String.reduceEq, hne, hl', h0]
        refine (word_spec G _ (c :: r) (by omega)).mono ?_
        rintro _ H1 ⟨rfl, rfl⟩
        by_cases hw : wordL (c :: r) = c :: r
        · simp (disch := omega) only [go_sem, Nat.reduceEqDiff, Nat.reduceAdd, Nat.reduceMul, Nat.reduceSub, Nat.reduceLeDiff, ↓reduceIte, reduceCtorEq, Int.reduceAdd, Int.reduceSub, Int.reduceMul, Int.reduceNeg, Int.reduceToNat, List.reduceReplicate, String.reduceEq, hne, hl', h0, hw]
          refine (key_spec hG _ (c :: r)).mono ?_
          rintro _ H1 ⟨rfl, rfl⟩
          simp (disch := omega) only [go_sem, Nat.reduceEqDiff, Nat.reduceAdd, Nat.reduceMul, Nat.reduceSub, Nat.reduceLeDiff, ↓reduceIte, reduceCtorEq, Int.reduceAdd, Int.reduceSub, Int.reduceMul, Int.reduceNeg, Int.reduceToNat, List.reduceReplicate, String.reduceEq, hne, hl', h0, hw]
          exact DFin.refl ⟨by first | rfl | (rw [List.length_cons] at hl; simp [hw]; intro _; omega), rfl⟩
        · simp (disch := omega) only [go_sem, Nat.reduceEqDiff, Nat.reduceAdd, Nat.reduceMul, Nat.reduceSub, Nat.reduceLeDiff, ↓reduceIte, reduceCtorEq, Int.reduceAdd, Int.reduceSub, Int.reduceMul, Int.reduceNeg, Int.reduceToNat, List.reduceReplicate, String.reduceEq, hne, hl', h0, hw]
          exact DFin.refl ⟨by first | rfl | simp [hw], rfl⟩
    · have hl' : ¬ ((c :: r).length : Int) ≤ 32 := by omega
      simp (disch := omega) only [go_sem, Nat.reduceEqDiff, Nat.reduceAdd, Nat.reduceMul, Nat.reduceSub, Nat.reduceLeDiff, ↓reduceIte, reduceCtorEq, Int.reduceAdd, Int.reduceSub, Int.reduceMul, Int.reduceNeg, Int.reduceToNat, List.reduceReplicate, String.reduceEq, hne, hl', h0]
      exact DFin.refl ⟨by first | rfl | (rw [List.length_cons] at hl; simp; intro h; omega), rfl⟩
theorem index_syms (a : UInt8) : 0 ≤ Lib.indexByte syms1 a ↔ a ∈ syms1 := decide_eq_decide.1 (index_mem syms1 a)
theorem symN_cons (a : UInt8) (r : List UInt8) (h : ∀ b r', r = b :: r' → (a, b) ∉ syms2) : symN (a :: r) = if a ∈ syms1 then 1 else 0 := by
  match r with
  | [] => rfl
  | b :: r' => simp only [symN, if_neg (h b r' rfl)]
theorem symbol_spec (hG : GX G) (H : DHeap) (s : List UInt8) (hs : s.length ≤ 9223372036854775807) : DCalls Tryz.prog G 51 [.str s] H (DRet (dI (symN s)) H) := by
  refine dcalls_intro Tryz.func51 Tryz.call51 rfl (by kernel_rfl) ?_
  match s with
  | [] =>
    simp (disch := omega) only [go_sem, Nat.reduceEqDiff, Nat.reduceAdd, Nat.reduceMul, Nat.reduceSub, Nat.reduceLeDiff, ↓reduceIte, reduceCtorEq, Int.reduceAdd, Int.reduceSub, Int.reduceMul, Int.reduceNeg, Int.reduceToNat, List.reduceReplicate, String.reduceEq]
    exact DFin.refl ⟨rfl, rfl⟩
  | [a] =>
    have hne : ¬ ([a] : List UInt8) = [] := by simp
    have h0 : ([a] : List UInt8)[0]? = some a := rfl
    simp (disch := omega) only [go_sem, Nat.reduceEqDiff, Nat.reduceAdd, Nat.reduceMul, Nat.reduceSub, Nat.reduceLeDiff, ↓reduceIte, reduceCtorEq, Int.reduceAdd, Int.reduceSub, Int.reduceMul, Int.reduceNeg, Int.reduceToNat, List.reduceReplicate, String.reduceEq, hne, h0]
    have hno : ∀ b r', ([] : List UInt8) = b :: r' → (a, b) ∉ syms2 := fun b r' e => (by cases e)
    · show DCalls _ _ _ [.str syms1, _] _ _
      refine (indexByte_spec syms1 a).mono ?_
      rintro _ H1 ⟨rfl, rfl⟩
      by_cases hm : a ∈ syms1
      · have hm' := (index_syms a).2 hm
        simp (disch := omega) only [go_sem, Nat.reduceEqDiff, Nat.reduceAdd, Nat.reduceMul, Nat.reduceSub, Nat.reduceLeDiff, ↓reduceIte, reduceCtorEq, Int.reduceAdd, Int.reduceSub, Int.reduceMul, Int.reduceNeg, Int.reduceToNat, List.reduceReplicate, String.reduceEq, hne, h0, hm']
        refine DFin.refl ⟨?_, rfl⟩
        rw [symN_cons a _ hno, if_pos hm]; rfl
      · have hm' : ¬ 0 ≤ Lib.indexByte syms1 a := fun h => hm ((index_syms a).1 h)
        simp (disch := omega) only [go_sem, Nat.reduceEqDiff, Nat.reduceAdd, Nat.reduceMul, Nat.reduceSub, Nat.reduceLeDiff, ↓reduceIte, reduceCtorEq, Int.reduceAdd, Int.reduceSub, Int.reduceMul, Int.reduceNeg, Int.reduceToNat, List.reduceReplicate, String.reduceEq, hne, h0, hm']
        refine DFin.refl ⟨?_, rfl⟩
        rw [symN_cons a _ hno, if_neg hm]; rfl
  | a :: b :: r =>
    have hne : ¬ (a :: b :: r : List UInt8) = [] := by simp
    have h0 : (a :: b :: r : List UInt8)[0]? = some a := rfl
    have h1 : (1 : Int) < ((a :: b :: r).length : Int) := by simp only [List.length_cons]; omega
    have h2 : (2 : Int) ≤ ((a :: b :: r).length : Int) := by simp only [List.length_cons]; omega
    have h3 : (a :: b :: r).take 2 = [a, b] := rfl
    simp (disch := omega) only [go_sem, Nat.reduceEqDiff, Nat.reduceAdd, Nat.reduceMul, Nat.reduceSub, Nat.reduceLeDiff, ↓reduceIte, reduceCtorEq, Int.reduceAdd, Int.reduceSub, Int.reduceMul, Int.reduceNeg, Int.reduceToNat, List.reduceReplicate, String.reduceEq, hne, h0, h1, h2, h3]
    show DCalls _ _ _ [.str symsLit, .str [32, a, b, 32]] _ _
    refine (contains_spec hG.gt symsLit [32, a, b, 32] (by decide)).mono ?_
    rintro _ H1 ⟨rfl, rfl⟩
    rw [contains_sym]
    by_cases hab : (a, b) ∈ syms2
    · simp (disch := omega) only [go_sem, Nat.reduceEqDiff, Nat.reduceAdd, Nat.reduceMul, Nat.reduceSub, Nat.reduceLeDiff, ↓reduceIte, reduceCtorEq, Int.reduceAdd, Int.reduceSub, Int.reduceMul, Int.reduceNeg, Int.reduceToNat, List.reduceReplicate, String.reduceEq, hne, h0, h1, h2, h3, hab]
      refine DFin.refl ⟨?_, rfl⟩
      simp only [symN, if_pos hab]; rfl
    · simp (disch := omega) only [go_sem, Nat.reduceEqDiff, Nat.reduceAdd, Nat.reduceMul, Nat.reduceSub, Nat.reduceLeDiff, ↓reduceIte, reduceCtorEq, Int.reduceAdd, Int.reduceSub, Int.reduceMul, Int.reduceNeg, Int.reduceToNat, List.reduceReplicate, String.reduceEq, hne, h0, h1, h2, h3, hab]
      have hno : ∀ b' r', b :: r = b' :: r' → (a, b') ∉ syms2 := fun b' r' e => by cases e; exact hab
      · show DCalls _ _ _ [.str syms1, _] _ _
        refine (indexByte_spec syms1 a).mono ?_
        rintro _ H1 ⟨rfl, rfl⟩
        by_cases hm : a ∈ syms1
        · have hm' := (index_syms a).2 hm
          simp (disch := omega) only [go_sem, Nat.reduceEqDiff, Nat.reduceAdd, Nat.reduceMul, Nat.reduceSub, Nat.reduceLeDiff, ↓reduceIte, reduceCtorEq, Int.reduceAdd, Int.reduceSub, Int.reduceMul, Int.reduceNeg, Int.reduceToNat, List.reduceReplicate, String.reduceEq, hne, h0, hm']
          refine DFin.refl ⟨?_, rfl⟩
          rw [symN_cons a _ hno, if_pos hm]; rfl
        · have hm' : ¬ 0 ≤ Lib.indexByte syms1 a := fun h => hm ((index_syms a).1 h)
          simp (disch := omega) only [go_sem, Nat.reduceEqDiff, Nat.reduceAdd, Nat.reduceMul, Nat.reduceSub, Nat.reduceLeDiff, ↓reduceIte, reduceCtorEq, Int.reduceAdd, Int.reduceSub, Int.reduceMul, Int.reduceNeg, Int.reduceToNat, List.reduceReplicate, String.reduceEq, hne, h0, hm']
          refine DFin.refl ⟨?_, rfl⟩
          rw [symN_cons a _ hno, if_neg hm]; rfl
end
end Go.Dl
