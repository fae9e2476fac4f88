/- The data level and the contracts of the functions that are reached (part 7). -/
import Derived.Test.YtfekogpdmjbdkaaGreatDoorPpf
set_option linter.unusedSimpArgs false
set_option linter.unusedVariables false
set_option linter.unusedSectionVars false
-- Chapter 3: the package's reader: tokens, words.
namespace Go.Dl
open Go Go.Proofs
set_option maxRecDepth 100000
abbrev rdO (l : List Tok) (k : Nat) : DObj := .cells [dToks l, dI k] 139
def RAt (r : Nat) (l : List Tok) (k : Nat) (H0 H : DHeap) : Prop := Sub (upd H0 r (some (rdO l k))) H
section
variable {G : Nat → DVal} {H0 H : DHeap} {r k : Nat} {l : List Tok}
theorem RAt.refl (h : H r = some (rdO l k)) : RAt r l k H H := fun b o hb => by
 simp only [upd] at hb;split at hb
 ·rename_i e; subst e; rw [h]; exact hb
 ·exact hb
theorem RAt.get (h : RAt r l k H0 H) : H r = some (rdO l k) := h _ _ (upd_same _ _ _)
theorem RAt.new (h : RAt r l k H0 H) {x : Nat} (hx : H x = none) (o : Option DObj) : RAt r l k H0 (upd H x o) := Sub.new h hx o
theorem RAt.more (h : RAt r l k H0 H) {H' : DHeap} (s : Sub H H') : RAt r l k H0 H' := Sub.trans h s
theorem RAt.set (h : RAt r l k H0 H) (k' : Nat) : RAt r l k' H0 (upd H r (some (rdO l k'))) := fun b o hb => by
 simp only [upd] at hb ⊢
 by_cases e : b = r
 ·rw [if_pos e] at hb ⊢; exact hb
 ·rw [if_neg e] at hb ⊢; exact h b o (by simp only [upd]; rw [if_neg e]; exact hb)
theorem RAt.own (h : RAt r l k H0 H) {x : Nat} (hx : H0 x = none) (hr : x ≠ r) (o : Option DObj) : RAt r l k H0 (upd H x o) := Sub.up h (by simp only [upd]; rw [if_neg hr]; exact hx) o
theorem RAt.lo (h : RAt r l k H0 H) {x : Nat} (hx : H x = none) : H0 x = none := by
 have := Sub.lo h hx;simp only [upd] at this;split at this
 ·cases this
 ·exact this
theorem RAt.fin {R : DEnd → DHeap → Prop} {v : DVal} (h : RAt r l k H0 H) (hR : R (.ret v) (upd H0 r (some (rdO l k)))) : DFin R v H := DFin.sub h (.refl hR)
theorem DFinP.sub {R : DEnd → DHeap → Prop} {v : DVal} {H' : DHeap} (h : Sub H' H) (hR : R (.panic v) H') : DFinP R v H := ⟨v, H', GhostE.sub h v, hR⟩
theorem RAt.finP {R : DEnd → DHeap → Prop} {v : DVal} (h : RAt r l k H0 H) (hR : R (.panic v) (upd H0 r (some (rdO l k)))) : DFinP R v H := DFinP.sub h hR
theorem upd_get {H : DHeap} {r : Nat} {x : Option DObj} (h : H r = x) : upd H r x = H := by
 funext b;simp only [upd];split
 ·rename_i e; rw [e, h]
 ·rfl
theorem tk_in {i : Nat} (h : i < l.length) : tk l i = l[i] := by rw [tk, List.getD, List.getElem?_eq_getElem h]; rfl
theorem tk_out {i : Nat} (h : l.length ≤ i) : tk l i = tok0 := by rw [tk, List.getD, List.getElem?_eq_none h]; rfl
theorem token_spec (G : Nat → DVal) (H : DHeap) (j : Nat) (hr : H r = some (rdO l k)) (hl : l.length ≤ 1000000) (hk : k ≤ 1000000) (hj : j ≤ 1000000) : DCalls Tryz.prog G 125 [.optr r 0, dI j] H (DRet (.agg (dTok (tk l (k + j)))) H) := by
 have hw : IntKind.i64.wrap ((k : Int) + (j : Int)) = ((k + j : Nat) : Int) := by rw [IntKind.wrap_i64]; omega
 unfold rdO at hr;refine dcalls_intro Tryz.func125 Tryz.call125 rfl (by kernel_rfl) ?_;simp (disch := omega) only [go_sem];intro r4 hr4; dsimp only at hr4;have n1 : r ≠ r4 := none_ne hr4 hr;by_cases c : k + j < l.length
 ·have c' : ((k + j : Nat) : Int) < (l.length : Int) := by omega
  have hget := flat_el dTok_len l (k + j) c;have hfl := flat_len dTok_len l;rw [tk_in c];simp (disch := omega) only [go_sem, n1, hr];refine dwp_draws (by kernel_rfl) (.take 0 (.take 1 (.take 2 (.take 3 (.take 4 (.take 5 (.take 6 (.take 7 (.take 8 (.take 9 (.take 10 (.take 11 .done)))))))))))) (by kernel_rfl) ?_;simp (disch := omega) only [go_sem, n1, hr, hw, c', dToks];refine dwp_draws (by kernel_rfl) (.take 0 (.take 1 (.take 2 (.take 3 (.take 4 (.take 5 (.take 6 (.take 7 (.take 8 (.take 9 (.take 10 (.take 11 (.go 12 [] .done))))))))))))) (by kernel_rfl) ?_;simp (disch := omega) only [go_sem, n1, hr, hw, c', dToks, hget, hfl, Int.toNat_natCast];simp (disch := omega) only [go_sem, dTok];exact DFin.dropA r4 hr4 (DFin.refl ⟨rfl, rfl⟩)
 ·have c' : ¬ ((k + j : Nat) : Int) < (l.length : Int) := by omega
  rw [tk_out (by omega)];simp (disch := omega) only [go_sem, n1, hr];refine dwp_draws (by kernel_rfl) (.take 0 (.take 1 (.take 2 (.take 3 (.take 4 (.take 5 (.take 6 (.take 7 (.take 8 (.take 9 (.take 10 (.take 11 .done)))))))))))) (by kernel_rfl) ?_;simp (disch := omega) only [go_sem, n1, hr, hw, c', dToks];exact DFin.dropA r4 hr4 (DFin.refl ⟨rfl, rfl⟩)
theorem token0_spec (G : Nat → DVal) (H : DHeap) (hr : H r = some (rdO l k)) (hl : l.length ≤ 1000000) (hk : k ≤ 1000000) : DCalls Tryz.prog G 125 [.optr r 0, dI 0] H (DRet (.agg (dTok (tk l k))) H) :=
 token_spec G H 0 hr hl hk (by omega)
theorem line_spec (G : Nat → DVal) (H : DHeap) (hr : H r = some (rdO l k)) (hl : l.length ≤ 1000000) (hk : k ≤ 1000000) : DCalls Tryz.prog G 123 [.optr r 0] H (DRet (dI (tk l k).line) H) := by
 refine dcalls_intro Tryz.func123 Tryz.call123 rfl (by kernel_rfl) ?_;simp (disch := omega) only [go_sem];refine (token_spec G H 0 hr hl hk (by omega)).mono ?_;rintro _ H1 ⟨rfl, rfl⟩;simp (disch := omega) only [go_sem, Nat.add_zero, dTok];exact DFin.refl ⟨rfl, rfl⟩
def dW (ws : List (List UInt8)) : DVal := .vslice (ws.map .str) ws.length
theorem isW_step {ws : List (List UInt8)} {j : Nat} (hj : j < ws.length) : isW l (k + j) (ws.drop j) = (decide ((tk l (k + j)).kind = kindW ws[j]) && decide ((tk l (k + j)).text = ws[j]) && isW l (k + (j + 1)) (ws.drop (j + 1))) := by
 rw [List.drop_eq_getElem_cons hj, isW]; rfl
theorem is_spec (hG : GX G) (H : DHeap) (ws : List (List UInt8)) (hr : H r = some (rdO l k)) (hl : l.length ≤ 1000000) (hk : k ≤ 900000) (hw : ws.length ≤ 1000) : DCalls Tryz.prog G 126 [.optr r 0, dW ws] H (DRet (.bool (isW l k ws)) H) := by
 refine dcalls_intro Tryz.func126 Tryz.call126 rfl (by kernel_rfl) ?_;simp (disch := omega) only [go_sem, dW];obtain ⟨I, hI⟩ : ∃ I : Nat → (Nat → DVal) → DHeap → Prop, ∀ j env heap, I j env heap ↔ (env 0 = .optr r 0 ∧ env 9 = dW ws ∧ env 10 = dI ws.length ∧ env 11 = dI j ∧ j ≤ ws.length ∧ isW l k ws = isW l (k + j) (ws.drop j) ∧ Sub H heap) := ⟨_, fun _ _ _ => Iff.rfl⟩;refine DLoop.run I (fun j => ws.length - j) 0 ((hI _ _ _).2 ?_) ?_
 ·simp (disch := omega) only [go_sem];(repeat' apply And.intro) <;> (try first | rfl | assumption | omega);exact Sub.refl H
 ·intro j env heap hi;obtain ⟨e0, e9, e10, e11, hj, hm, hs⟩ := (hI _ _ _).1 hi;have gr := hs _ _ hr;by_cases hlt : j < ws.length
  ·have hlt' : (j : Int) < (ws.length : Int) := by omega
   have hwj : IntKind.i64.wrap ((j : Int) + 1) = ((j + 1 : Nat) : Int) := by rw [IntKind.wrap_i64]; omega
   have hget : (ws.map DVal.str)[j]? = some (.str ws[j]) := by rw [List.getElem?_map, List.getElem?_eq_getElem hlt]; rfl
   have hml : (ws.map DVal.str).length = ws.length := List.length_map _;rw [isW_step hlt] at hm;obtain ⟨s, hse⟩ : ∃ s, s = ws[j] := ⟨_, rfl⟩;obtain ⟨t, ht⟩ : ∃ t, t = tk l (k + j) := ⟨_, rfl⟩;rw [← hse, ← ht] at hm;rw [← hse] at hget;simp (disch := omega) only [go_sem, e0, e9, e10, e11, hlt', dW, hget, hml, Int.toNat_natCast];refine (token_spec G heap j gr hl (by omega) (by omega)).mono ?_;rintro _ H1 ⟨rfl, rfl⟩;rw [← ht];simp (disch := omega) only [go_sem, e0, e9, e10, e11];intro r7 hr7; dsimp only at hr7;have hs7 : ∀ x, Sub H (upd H1 r7 x) := fun x => hs.new hr7 x;simp (disch := omega) only [go_sem, e0, e9, e10, e11, dTok];refine (key_spec hG _ s).mono ?_;rintro _ H2 ⟨rfl, rfl⟩;by_cases c1 : t.kind = kindW s
   ·by_cases c2 : t.text = s
    ·rw [decide_eq_true c1, decide_eq_true c2, Bool.true_and, Bool.true_and] at hm;rw [kindW] at c1;cases hkb : keyB s with
     | true =>
      rw [hkb, if_pos rfl] at c1;simp (disch := omega) only [go_sem, e0, e9, e10, e11, c1, c2];refine ⟨j + 1, _, GhostS.refl _, (hI _ _ _).2 ?_, by omega⟩;simp (disch := omega) only [go_sem, e0, e9, e10, e11, hwj];(repeat' apply And.intro) <;> (try first | rfl | assumption | omega);exact hs7 _
     | false =>
      rw [hkb, if_neg (by simp)] at c1;simp (disch := omega) only [go_sem, e0, e9, e10, e11, c1, c2];refine ⟨j + 1, _, GhostS.refl _, (hI _ _ _).2 ?_, by omega⟩;simp (disch := omega) only [go_sem, e0, e9, e10, e11, hwj];(repeat' apply And.intro) <;> (try first | rfl | assumption | omega);exact hs7 _
    ·rw [decide_eq_false c2, Bool.and_false, Bool.false_and] at hm;rw [kindW] at c1;cases hkb : keyB s with
     | true =>
      rw [hkb, if_pos rfl] at c1;simp (disch := omega) only [go_sem, e0, e9, e10, e11, c1, c2];exact DFin.sub (hs7 _) (.refl ⟨by rw [hm], rfl⟩)
     | false =>
      rw [hkb, if_neg (by simp)] at c1;simp (disch := omega) only [go_sem, e0, e9, e10, e11, c1, c2];exact DFin.sub (hs7 _) (.refl ⟨by rw [hm], rfl⟩)
   ·rw [decide_eq_false c1, Bool.false_and, Bool.false_and] at hm;rw [kindW] at c1;cases hkb : keyB s with
    | true =>
     rw [hkb, if_pos rfl] at c1;simp (disch := omega) only [go_sem, e0, e9, e10, e11, c1];exact DFin.sub (hs7 _) (.refl ⟨by rw [hm], rfl⟩)
    | false =>
     rw [hkb, if_neg (by simp)] at c1;simp (disch := omega) only [go_sem, e0, e9, e10, e11, c1];exact DFin.sub (hs7 _) (.refl ⟨by rw [hm], rfl⟩)
  ·have : j = ws.length := by omega
   subst this;have hlt' : ¬ (ws.length : Int) < (ws.length : Int) := by omega
   rw [List.drop_length, isW] at hm;simp (disch := omega) only [go_sem, e0, e9, e10, e11, hlt'];exact DFin.sub hs (.refl ⟨by rw [hm], rfl⟩)
def RdQ (r : Nat) (l : List Tok) (H : DHeap) (v : DVal) (k : Nat) (e : DEnd) (H' : DHeap) : Prop := e = .ret v ∧ H' = upd H r (some (rdO l k))
def dWrong (k : Nat) : DVal := .iface 142 (.agg [dI k])
theorem may_spec2 (hG : GX G) (H : DHeap) (ws : List (List UInt8)) (hr : H r = some (rdO l k)) (hl : l.length ≤ 1000000) (hk : k ≤ 900000) (hw : ws.length ≤ 1000) : DCalls Tryz.prog G 121 [.optr r 0, dW ws] H (RdQ r l H (.bool (isW l k ws)) (if isW l k ws then k + ws.length else k)) := by
 refine dcalls_intro Tryz.func121 Tryz.call121 rfl (by kernel_rfl) ?_;simp (disch := omega) only [go_sem];refine (is_spec hG H ws hr hl hk hw).mono ?_;rintro _ H1 ⟨rfl, rfl⟩;cases h : isW l k ws with
 | false =>
  simp (disch := omega) only [go_sem];exact DFin.refl ⟨rfl, (upd_get hr).symm⟩
 | true =>
  have hwj : IntKind.i64.wrap ((k : Int) + (ws.length : Int)) = ((k + ws.length : Nat) : Int) := by rw [IntKind.wrap_i64]; omega
  unfold rdO at hr;simp (disch := omega) only [go_sem, hr, dW, hwj];exact DFin.refl ⟨rfl, rfl⟩
theorem fail_spec (G : Nat → DVal) (H : DHeap) (hr : H r = some (rdO l k)) : DCalls Tryz.prog G 122 [.optr r 0] H (fun e H' => e = .panic (dWrong k) ∧ H' = H) := by
 unfold rdO at hr;refine dcalls_intro Tryz.func122 Tryz.call122 rfl (by kernel_rfl) ?_;simp (disch := omega) only [go_sem, hr];exact DFinP.refl ⟨rfl, rfl⟩
theorem may1 (hG : GX G) (H : DHeap) (q : Nat) (s : List UInt8) (hq : H q = none) (hr : H r = some (rdO l k)) (hl : l.length ≤ 1000000) (hk : k ≤ 900000) : DCalls Tryz.prog G 121 [.optr r 0, .oslice 1 q 0 1 1] (upd H q (some (.cells [.str s] 9))) (RdQ r l H (.bool (isW l k [s])) (if isW l k [s] then k + 1 else k)) := by
 refine DCalls.fzA q hq ?_;have n : r ≠ q := none_ne hq hr;simp only [fzs, fz, if_neg n, if_pos];exact may_spec2 hG H [s] hr hl hk (by simp)
theorem may2 (hG : GX G) (H : DHeap) (q : Nat) (s t : List UInt8) (hq : H q = none) (hr : H r = some (rdO l k)) (hl : l.length ≤ 1000000) (hk : k ≤ 900000) : DCalls Tryz.prog G 121 [.optr r 0, .oslice 1 q 0 2 2] (upd H q (some (.cells [.str s, .str t] 9))) (RdQ r l H (.bool (isW l k [s, t])) (if isW l k [s, t] then k + 2 else k)) := by
 refine DCalls.fzA q hq ?_;have n : r ≠ q := none_ne hq hr;simp only [fzs, fz, if_neg n, if_pos];exact may_spec2 hG H [s, t] hr hl hk (by simp)
theorem is1 (hG : GX G) (H : DHeap) (q : Nat) (s : List UInt8) (hq : H q = none) (hr : H r = some (rdO l k)) (hl : l.length ≤ 1000000) (hk : k ≤ 900000) : DCalls Tryz.prog G 126 [.optr r 0, .oslice 1 q 0 1 1] (upd H q (some (.cells [.str s] 9))) (DRet (.bool (isW l k [s])) H) := by
 refine DCalls.fzA q hq ?_;have n : r ≠ q := none_ne hq hr;simp only [fzs, fz, if_neg n, if_pos];exact is_spec hG H [s] hr hl hk (by simp)
theorem is2 (hG : GX G) (H : DHeap) (q : Nat) (s t : List UInt8) (hq : H q = none) (hr : H r = some (rdO l k)) (hl : l.length ≤ 1000000) (hk : k ≤ 900000) : DCalls Tryz.prog G 126 [.optr r 0, .oslice 1 q 0 2 2] (upd H q (some (.cells [.str s, .str t] 9))) (DRet (.bool (isW l k [s, t])) H) := by
 refine DCalls.fzA q hq ?_;have n : r ≠ q := none_ne hq hr;simp only [fzs, fz, if_neg n, if_pos];exact is_spec hG H [s, t] hr hl hk (by simp)
def RdR (r : Nat) (l : List Tok) (H : DHeap) : Res DVal → DEnd → DHeap → Prop
 | .bot, _, _ => False
 | .fail k, e, H' => e = .panic (dWrong k) ∧ H' = upd H r (some (rdO l k))
 | .ok v k, e, H' => e = .ret v ∧ H' = upd H r (some (rdO l k))
theorem must_spec (hG : GX G) (H : DHeap) (s : List UInt8) (hr : H r = some (rdO l k)) (hl : l.length ≤ 1000000) (hk : k ≤ 900000) : DCalls Tryz.prog G 129 [.optr r 0, .str s] H (RdR r l H (must l s k fun k => .ok (.tuple []) k)) := by
 refine dcalls_intro Tryz.func129 Tryz.call129 rfl (by kernel_rfl) ?_;simp (disch := omega) only [go_sem];intro q hq; dsimp only at hq;simp (disch := omega) only [go_sem];refine (may1 hG H q s hq hr hl hk).mono ?_;rintro _ H1 ⟨rfl, rfl⟩;rw [must];cases h : isW l k [s] with
 | true =>
  simp (disch := omega) only [go_sem];exact DFin.refl ⟨rfl, rfl⟩
 | false =>
  simp (disch := omega) only [go_sem];refine (fail_spec G _ (upd_same _ _ _)).mono ?_;rintro _ H2 ⟨rfl, rfl⟩;simp (disch := omega) only [go_sem];exact DFinP.refl ⟨rfl, rfl⟩
theorem take_spec (G : Nat → DVal) (H : DHeap) (kd : Int) (hr : H r = some (rdO l k)) (hl : l.length ≤ 1000000) (hk : k ≤ 900000) : DCalls Tryz.prog G 128 [.optr r 0, .int .u8 kd] H (RdR r l H (if (tk l k).kind = kd then .ok (.agg (dTok (tk l k))) (k + 1) else .fail k)) := by
 refine dcalls_intro Tryz.func128 Tryz.call128 rfl (by kernel_rfl) ?_;simp (disch := omega) only [go_sem];intro r4 hr4; dsimp only at hr4;have n4 : r ≠ r4 := none_ne hr4 hr;have hr' := hr;have hw : IntKind.i64.wrap ((k : Int) + 1) = ((k + 1 : Nat) : Int) := by rw [IntKind.wrap_i64]; omega
 unfold rdO at hr';simp (disch := omega) only [go_sem];refine (token0_spec G _ (l := l) (k := k) (by rw [upd_ne _ _ _ _ n4]; exact hr) hl (by omega)).mono ?_;rintro _ H1 ⟨rfl, rfl⟩;obtain ⟨t, ht⟩ : ∃ t, t = tk l k := ⟨_, rfl⟩;rw [← ht];simp (disch := omega) only [go_sem];intro r5 hr5; dsimp only at hr5;obtain ⟨m1, m2, hr5'⟩ := upd_eq_none.1 hr5;have n5 : r ≠ r5 := none_ne hr5' hr;have q4 := n4.symm;have q5 := n5.symm;by_cases c : t.kind = kd
 ·rw [if_pos c];simp (disch := omega) only [go_sem, m1, m2, n4, n5, q4, q5, dTok, hr', hw, c];exact RAt.fin (k := k + 1) ((((RAt.refl hr).new hr4 _).new hr5 _).set (k + 1) |>.own hr4 q4 _) ⟨rfl, rfl⟩
 ·rw [if_neg c];simp (disch := omega) only [go_sem, m1, m2, n4, n5, q4, q5, dTok, hr', c];have ha := ((RAt.refl hr).new hr4 (some (.cells [.int .u8 0, .int .i64 0, .str [], .int .i64 0] 52))).new hr5 (some (.cells [.int .u8 t.kind, dI t.line, .str t.text, dI t.n] 52));refine (fail_spec G _ ha.get).mono ?_;rintro _ H2 ⟨rfl, rfl⟩;simp (disch := omega) only [go_sem];exact RAt.finP ha ⟨rfl, rfl⟩
end
end Go.Dl

-- Chapter 3: the operators' words; operators (printed by gen_uh.py).
namespace Go.Dl
open Go Go.Proofs
set_option maxRecDepth 100000
section
variable {G : Nat → DVal} {H0 H : DHeap} {r k : Nat} {l : List Tok}
def dWords : DVal := .vslice (wordsL.map dW) 22
theorem two_cells {x y : List DVal} (hx : x.length = 9) (hy : y.length = 9) :
  (if 9 ≤ (repl 2 [DVal.int .u8 0, DVal.int .u8 0, DVal.int .i64 0, DVal.str [], DVal.nilSlice, DVal.nilSlice, DVal.int .i64 0, DVal.int .i64 0, DVal.int .i64 0]).length then
   if 18 ≤ (x ++ List.drop 9 (repl 2 [DVal.int .u8 0, DVal.int .u8 0, DVal.int .i64 0, DVal.str [], DVal.nilSlice, DVal.nilSlice, DVal.int .i64 0, DVal.int .i64 0, DVal.int .i64 0])).length then
    some (List.take 9 (x ++ List.drop 9 (repl 2 [DVal.int .u8 0, DVal.int .u8 0, DVal.int .i64 0, DVal.str [], DVal.nilSlice, DVal.nilSlice, DVal.int .i64 0, DVal.int .i64 0, DVal.int .i64 0])) ++ y ++
     List.drop 18 (x ++ List.drop 9 (repl 2 [DVal.int .u8 0, DVal.int .u8 0, DVal.int .i64 0, DVal.str [], DVal.nilSlice, DVal.nilSlice, DVal.int .i64 0, DVal.int .i64 0, DVal.int .i64 0])))
   else none
  else none) = some (x ++ y) := by
 have e : ∀ u : List DVal, repl 2 u = u ++ u := fun u => by simp [repl]
 rw [e];rw [if_pos (by simp), if_pos (by simp [hx]), List.take_left' hx, List.drop_eq_nil_of_le (by simp [hx]), List.append_nil]
set_option maxHeartbeats 4000000 in
theorem words_spec (G : Nat → DVal) (H : DHeap) : DCalls Tryz.prog G 164 [] H (DRet dWords H) := by
 refine dcalls_intro Tryz.func164 Tryz.call164 rfl (by kernel_rfl) ?_;simp (disch := omega) only [go_sem];intro b1 hb1; dsimp only at hb1;obtain ⟨K1, hK1⟩ : ∃ K, K = upd H b1 (some (.cells [.str [43]] 9)) := ⟨_, rfl⟩;rw [← hK1];simp (disch := omega) only [go_sem];intro b2 hb2; dsimp only at hb2;obtain ⟨K2, hK2⟩ : ∃ K, K = upd K1 b2 (some (.cells [.str [45]] 9)) := ⟨_, rfl⟩;rw [← hK2];simp (disch := omega) only [go_sem];intro b3 hb3; dsimp only at hb3;obtain ⟨K3, hK3⟩ : ∃ K, K = upd K2 b3 (some (.cells [.str [42]] 9)) := ⟨_, rfl⟩;rw [← hK3];simp (disch := omega) only [go_sem];intro b4 hb4; dsimp only at hb4;obtain ⟨K4, hK4⟩ : ∃ K, K = upd K3 b4 (some (.cells [.str [47]] 9)) := ⟨_, rfl⟩;rw [← hK4];simp (disch := omega) only [go_sem];intro b5 hb5; dsimp only at hb5;obtain ⟨K5, hK5⟩ : ∃ K, K = upd K4 b5 (some (.cells [.str [109, 111, 100]] 9)) := ⟨_, rfl⟩;rw [← hK5];simp (disch := omega) only [go_sem];intro b6 hb6; dsimp only at hb6;obtain ⟨K6, hK6⟩ : ∃ K, K = upd K5 b6 (some (.cells [.str [114, 101, 109]] 9)) := ⟨_, rfl⟩;rw [← hK6];simp (disch := omega) only [go_sem];intro b7 hb7; dsimp only at hb7;obtain ⟨K7, hK7⟩ : ∃ K, K = upd K6 b7 (some (.cells [.str [61]] 9)) := ⟨_, rfl⟩;rw [← hK7];simp (disch := omega) only [go_sem];intro b8 hb8; dsimp only at hb8;obtain ⟨K8, hK8⟩ : ∃ K, K = upd K7 b8 (some (.cells [.str [47, 61]] 9)) := ⟨_, rfl⟩;rw [← hK8];simp (disch := omega) only [go_sem];intro b9 hb9; dsimp only at hb9;obtain ⟨K9, hK9⟩ : ∃ K, K = upd K8 b9 (some (.cells [.str [60]] 9)) := ⟨_, rfl⟩;rw [← hK9];simp (disch := omega) only [go_sem];intro b10 hb10; dsimp only at hb10;obtain ⟨K10, hK10⟩ : ∃ K, K = upd K9 b10 (some (.cells [.str [60, 61]] 9)) := ⟨_, rfl⟩;rw [← hK10];simp (disch := omega) only [go_sem];intro b11 hb11; dsimp only at hb11;obtain ⟨K11, hK11⟩ : ∃ K, K = upd K10 b11 (some (.cells [.str [62]] 9)) := ⟨_, rfl⟩;rw [← hK11];simp (disch := omega) only [go_sem];intro b12 hb12; dsimp only at hb12;obtain ⟨K12, hK12⟩ : ∃ K, K = upd K11 b12 (some (.cells [.str [62, 61]] 9)) := ⟨_, rfl⟩;rw [← hK12];simp (disch := omega) only [go_sem];intro b13 hb13; dsimp only at hb13;obtain ⟨K13, hK13⟩ : ∃ K, K = upd K12 b13 (some (.cells [.str [97, 110, 100]] 9)) := ⟨_, rfl⟩;rw [← hK13];simp (disch := omega) only [go_sem];intro b14 hb14; dsimp only at hb14;obtain ⟨K14, hK14⟩ : ∃ K, K = upd K13 b14 (some (.cells [.str [111, 114]] 9)) := ⟨_, rfl⟩;rw [← hK14];simp (disch := omega) only [go_sem];intro b15 hb15; dsimp only at hb15;obtain ⟨K15, hK15⟩ : ∃ K, K = upd K14 b15 (some (.cells [.str [120, 111, 114]] 9)) := ⟨_, rfl⟩;rw [← hK15];simp (disch := omega) only [go_sem];intro b16 hb16; dsimp only at hb16;obtain ⟨K16, hK16⟩ : ∃ K, K = upd K15 b16 (some (.cells [.str [97, 110, 100], .str [116, 104, 101, 110]] 9)) := ⟨_, rfl⟩;rw [← hK16];simp (disch := omega) only [go_sem];intro b17 hb17; dsimp only at hb17;obtain ⟨K17, hK17⟩ : ∃ K, K = upd K16 b17 (some (.cells [.str [111, 114], .str [101, 108, 115, 101]] 9)) := ⟨_, rfl⟩;rw [← hK17];simp (disch := omega) only [go_sem];intro b18 hb18; dsimp only at hb18;obtain ⟨K18, hK18⟩ : ∃ K, K = upd K17 b18 (some (.cells [.str [43]] 9)) := ⟨_, rfl⟩;rw [← hK18];simp (disch := omega) only [go_sem];intro b19 hb19; dsimp only at hb19;obtain ⟨K19, hK19⟩ : ∃ K, K = upd K18 b19 (some (.cells [.str [45]] 9)) := ⟨_, rfl⟩;rw [← hK19];simp (disch := omega) only [go_sem];intro b20 hb20; dsimp only at hb20;obtain ⟨K20, hK20⟩ : ∃ K, K = upd K19 b20 (some (.cells [.str [97, 98, 115]] 9)) := ⟨_, rfl⟩;rw [← hK20];simp (disch := omega) only [go_sem];intro b21 hb21; dsimp only at hb21;obtain ⟨K21, hK21⟩ : ∃ K, K = upd K20 b21 (some (.cells [.str [110, 111, 116]] 9)) := ⟨_, rfl⟩;rw [← hK21];simp (disch := omega) only [go_sem];intro b22 hb22; dsimp only at hb22;obtain ⟨K22, hK22⟩ : ∃ K, K = upd K21 b22 (some (.cells [.nilSlice, .oslice 1 b1 0 1 1, .oslice 1 b2 0 1 1, .oslice 1 b3 0 1 1, .oslice 1 b4 0 1 1, .oslice 1 b5 0 1 1, .oslice 1 b6 0 1 1, .oslice 1 b7 0 1 1, .oslice 1 b8 0 1 1, .oslice 1 b9 0 1 1, .oslice 1 b10 0 1 1, .oslice 1 b11 0 1 1, .oslice 1 b12 0 1 1, .oslice 1 b13 0 1 1, .oslice 1 b14 0 1 1, .oslice 1 b15 0 1 1, .oslice 1 b16 0 2 2, .oslice 1 b17 0 2 2, .oslice 1 b18 0 1 1, .oslice 1 b19 0 1 1, .oslice 1 b20 0 1 1, .oslice 1 b21 0 1 1] 58)) := ⟨_, rfl⟩;rw [← hK22];have s1 : Sub H K1 := by rw [hK1]; exact (Sub.refl _).new hb1 _
 have s2 : Sub K1 K2 := by rw [hK2]; exact (Sub.refl _).new hb2 _
 have s3 : Sub K2 K3 := by rw [hK3]; exact (Sub.refl _).new hb3 _
 have s4 : Sub K3 K4 := by rw [hK4]; exact (Sub.refl _).new hb4 _
 have s5 : Sub K4 K5 := by rw [hK5]; exact (Sub.refl _).new hb5 _
 have s6 : Sub K5 K6 := by rw [hK6]; exact (Sub.refl _).new hb6 _
 have s7 : Sub K6 K7 := by rw [hK7]; exact (Sub.refl _).new hb7 _
 have s8 : Sub K7 K8 := by rw [hK8]; exact (Sub.refl _).new hb8 _
 have s9 : Sub K8 K9 := by rw [hK9]; exact (Sub.refl _).new hb9 _
 have s10 : Sub K9 K10 := by rw [hK10]; exact (Sub.refl _).new hb10 _
 have s11 : Sub K10 K11 := by rw [hK11]; exact (Sub.refl _).new hb11 _
 have s12 : Sub K11 K12 := by rw [hK12]; exact (Sub.refl _).new hb12 _
 have s13 : Sub K12 K13 := by rw [hK13]; exact (Sub.refl _).new hb13 _
 have s14 : Sub K13 K14 := by rw [hK14]; exact (Sub.refl _).new hb14 _
 have s15 : Sub K14 K15 := by rw [hK15]; exact (Sub.refl _).new hb15 _
 have s16 : Sub K15 K16 := by rw [hK16]; exact (Sub.refl _).new hb16 _
 have s17 : Sub K16 K17 := by rw [hK17]; exact (Sub.refl _).new hb17 _
 have s18 : Sub K17 K18 := by rw [hK18]; exact (Sub.refl _).new hb18 _
 have s19 : Sub K18 K19 := by rw [hK19]; exact (Sub.refl _).new hb19 _
 have s20 : Sub K19 K20 := by rw [hK20]; exact (Sub.refl _).new hb20 _
 have s21 : Sub K20 K21 := by rw [hK21]; exact (Sub.refl _).new hb21 _
 have s22 : Sub K21 K22 := by rw [hK22]; exact (Sub.refl _).new hb22 _
 have t22 : Sub K22 K22 := Sub.refl _;have t21 : Sub K21 K22 := s22.trans t22;have t20 : Sub K20 K22 := s21.trans t21;have t19 : Sub K19 K22 := s20.trans t20;have t18 : Sub K18 K22 := s19.trans t19;have t17 : Sub K17 K22 := s18.trans t18;have t16 : Sub K16 K22 := s17.trans t17;have t15 : Sub K15 K22 := s16.trans t16;have t14 : Sub K14 K22 := s15.trans t15;have t13 : Sub K13 K22 := s14.trans t14;have t12 : Sub K12 K22 := s13.trans t13;have t11 : Sub K11 K22 := s12.trans t12;have t10 : Sub K10 K22 := s11.trans t11;have t9 : Sub K9 K22 := s10.trans t10;have t8 : Sub K8 K22 := s9.trans t9;have t7 : Sub K7 K22 := s8.trans t8;have t6 : Sub K6 K22 := s7.trans t7;have t5 : Sub K5 K22 := s6.trans t6;have t4 : Sub K4 K22 := s5.trans t5;have t3 : Sub K3 K22 := s4.trans t4;have t2 : Sub K2 K22 := s3.trans t3;have t1 : Sub K1 K22 := s2.trans t2;have t0 : Sub H K22 := s1.trans t1;have u1 : Sub H H := Sub.refl H;have u2 : Sub H K1 := u1.trans s1;have u3 : Sub H K2 := u2.trans s2;have u4 : Sub H K3 := u3.trans s3;have u5 : Sub H K4 := u4.trans s4;have u6 : Sub H K5 := u5.trans s5;have u7 : Sub H K6 := u6.trans s6;have u8 : Sub H K7 := u7.trans s7;have u9 : Sub H K8 := u8.trans s8;have u10 : Sub H K9 := u9.trans s9;have u11 : Sub H K10 := u10.trans s10;have u12 : Sub H K11 := u11.trans s11;have u13 : Sub H K12 := u12.trans s12;have u14 : Sub H K13 := u13.trans s13;have u15 : Sub H K14 := u14.trans s14;have u16 : Sub H K15 := u15.trans s15;have u17 : Sub H K16 := u16.trans s16;have u18 : Sub H K17 := u17.trans s17;have u19 : Sub H K18 := u18.trans s18;have u20 : Sub H K19 := u19.trans s19;have u21 : Sub H K20 := u20.trans s20;have u22 : Sub H K21 := u21.trans s21;have hsT : Sub H K22 := u22.trans s22;have c1 : K22 b1 = some (.cells [.str [43]] 9) := t1 _ _ (by rw [hK1]; exact upd_same _ _ _);have c2 : K22 b2 = some (.cells [.str [45]] 9) := t2 _ _ (by rw [hK2]; exact upd_same _ _ _);have c3 : K22 b3 = some (.cells [.str [42]] 9) := t3 _ _ (by rw [hK3]; exact upd_same _ _ _);have c4 : K22 b4 = some (.cells [.str [47]] 9) := t4 _ _ (by rw [hK4]; exact upd_same _ _ _);have c5 : K22 b5 = some (.cells [.str [109, 111, 100]] 9) := t5 _ _ (by rw [hK5]; exact upd_same _ _ _);have c6 : K22 b6 = some (.cells [.str [114, 101, 109]] 9) := t6 _ _ (by rw [hK6]; exact upd_same _ _ _);have c7 : K22 b7 = some (.cells [.str [61]] 9) := t7 _ _ (by rw [hK7]; exact upd_same _ _ _);have c8 : K22 b8 = some (.cells [.str [47, 61]] 9) := t8 _ _ (by rw [hK8]; exact upd_same _ _ _);have c9 : K22 b9 = some (.cells [.str [60]] 9) := t9 _ _ (by rw [hK9]; exact upd_same _ _ _);have c10 : K22 b10 = some (.cells [.str [60, 61]] 9) := t10 _ _ (by rw [hK10]; exact upd_same _ _ _);have c11 : K22 b11 = some (.cells [.str [62]] 9) := t11 _ _ (by rw [hK11]; exact upd_same _ _ _);have c12 : K22 b12 = some (.cells [.str [62, 61]] 9) := t12 _ _ (by rw [hK12]; exact upd_same _ _ _);have c13 : K22 b13 = some (.cells [.str [97, 110, 100]] 9) := t13 _ _ (by rw [hK13]; exact upd_same _ _ _);have c14 : K22 b14 = some (.cells [.str [111, 114]] 9) := t14 _ _ (by rw [hK14]; exact upd_same _ _ _);have c15 : K22 b15 = some (.cells [.str [120, 111, 114]] 9) := t15 _ _ (by rw [hK15]; exact upd_same _ _ _);have c16 : K22 b16 = some (.cells [.str [97, 110, 100], .str [116, 104, 101, 110]] 9) := t16 _ _ (by rw [hK16]; exact upd_same _ _ _);have c17 : K22 b17 = some (.cells [.str [111, 114], .str [101, 108, 115, 101]] 9) := t17 _ _ (by rw [hK17]; exact upd_same _ _ _);have c18 : K22 b18 = some (.cells [.str [43]] 9) := t18 _ _ (by rw [hK18]; exact upd_same _ _ _);have c19 : K22 b19 = some (.cells [.str [45]] 9) := t19 _ _ (by rw [hK19]; exact upd_same _ _ _);have c20 : K22 b20 = some (.cells [.str [97, 98, 115]] 9) := t20 _ _ (by rw [hK20]; exact upd_same _ _ _);have c21 : K22 b21 = some (.cells [.str [110, 111, 116]] 9) := t21 _ _ (by rw [hK21]; exact upd_same _ _ _);have c22 : K22 b22 = some (.cells [.nilSlice, .oslice 1 b1 0 1 1, .oslice 1 b2 0 1 1, .oslice 1 b3 0 1 1, .oslice 1 b4 0 1 1, .oslice 1 b5 0 1 1, .oslice 1 b6 0 1 1, .oslice 1 b7 0 1 1, .oslice 1 b8 0 1 1, .oslice 1 b9 0 1 1, .oslice 1 b10 0 1 1, .oslice 1 b11 0 1 1, .oslice 1 b12 0 1 1, .oslice 1 b13 0 1 1, .oslice 1 b14 0 1 1, .oslice 1 b15 0 1 1, .oslice 1 b16 0 2 2, .oslice 1 b17 0 2 2, .oslice 1 b18 0 1 1, .oslice 1 b19 0 1 1, .oslice 1 b20 0 1 1, .oslice 1 b21 0 1 1] 58) := t22 _ _ (by rw [hK22]; exact upd_same _ _ _);have seenT : Seen K22 (.oslice 1 b22 0 22 22) H (.vslice (wordsL.map dW) 22) := Seen.cells (cs' := wordsL.map dW) hsT (u22.lo hb22) c22 rfl (.cons (.nil hsT) (.cons (Seen.block hsT (u1.lo hb1) c1 rfl) (.cons (Seen.block hsT (u2.lo hb2) c2 rfl) (.cons (Seen.block hsT (u3.lo hb3) c3 rfl) (.cons (Seen.block hsT (u4.lo hb4) c4 rfl) (.cons (Seen.block hsT (u5.lo hb5) c5 rfl) (.cons (Seen.block hsT (u6.lo hb6) c6 rfl) (.cons (Seen.block hsT (u7.lo hb7) c7 rfl) (.cons (Seen.block hsT (u8.lo hb8) c8 rfl) (.cons (Seen.block hsT (u9.lo hb9) c9 rfl) (.cons (Seen.block hsT (u10.lo hb10) c10 rfl) (.cons (Seen.block hsT (u11.lo hb11) c11 rfl) (.cons (Seen.block hsT (u12.lo hb12) c12 rfl) (.cons (Seen.block hsT (u13.lo hb13) c13 rfl) (.cons (Seen.block hsT (u14.lo hb14) c14 rfl) (.cons (Seen.block hsT (u15.lo hb15) c15 rfl) (.cons (Seen.block hsT (u16.lo hb16) c16 rfl) (.cons (Seen.block hsT (u17.lo hb17) c17 rfl) (.cons (Seen.block hsT (u18.lo hb18) c18 rfl) (.cons (Seen.block hsT (u19.lo hb19) c19 rfl) (.cons (Seen.block hsT (u20.lo hb20) c20 rfl) (.cons (Seen.block hsT (u21.lo hb21) c21 rfl) (.nil)))))))))))))))))))))));simp (disch := omega) only [go_sem];exact Seen.fin hsT seenT ⟨rfl, rfl⟩
theorem both_spec (G : Nat → DVal) (H : DHeap) (o : Nat) (a b : Ex) : DCalls Tryz.prog G 120 [.int .u8 o, .agg (dEx a), .agg (dEx b)] H (DRet (.agg (dEx (both o a b))) H) := by
 have hea : both o a b = .mk 12 o 0 [] [a, b] [] a.line 0 0 := rfl;rw [hea];have hab : [a, b].flatMap dEx = dEx a ++ dEx b := by simp
 have hla : (dEx a)[6]? = some (dI a.line) := by cases a; rfl
 have hlx : (dEx a).length = 9 := dEx_len a;have hly : (dEx b).length = 9 := dEx_len b;refine dcalls_intro Tryz.func120 Tryz.call120 rfl (by kernel_rfl) ?_;simp (disch := omega) only [go_sem, DVal.cells];intro r4 hr4; dsimp only at hr4;simp (disch := omega) only [go_sem, DVal.cells];intro r5 hr5; dsimp only at hr5;obtain ⟨m1, m2, hr5'⟩ := upd_eq_none.1 hr5;simp (disch := omega) only [go_sem];intro r6 hr6; dsimp only at hr6;obtain ⟨m3, m4, hr6a⟩ := upd_eq_none.1 hr6;obtain ⟨m5, m6, hr6'⟩ := upd_eq_none.1 hr6a;simp (disch := omega) only [go_sem, m1, m2, m3, m4, m5, m6];rw [two_cells hlx hly];simp (disch := omega) only [go_sem, m1, m2, m3, m4, m5, m6];intro r7 hr7; dsimp only at hr7;obtain ⟨p1, p2, hr7a⟩ := upd_eq_none.1 hr7;obtain ⟨p3, p4, hr7b⟩ := upd_eq_none.1 hr7a;obtain ⟨p5, p6, hr7'⟩ := upd_eq_none.1 hr7b;simp (disch := omega) only [go_sem, m1, m2, m3, m4, m5, m6, p1, p2, p3, p4, p5, p6, hla];have hs := (((((Sub.refl H).new hr4 (some (.cells (dEx a) 27))).new hr5 (some (.cells (dEx b) 27))).new hr6 (some (.cells [.int .u8 0, .int .u8 0, .int .i64 0, .str [], .nilSlice, .nilSlice, .int .i64 0, .int .i64 0, .int .i64 0] 27))).new hr7 (some (.cells (dEx a ++ dEx b) 27))).up hr6' (some (.cells [.int .u8 12, .int .u8 o, .int .i64 0, .str [], .oslice 9 r7 0 2 2, .nilSlice, .int .i64 a.line, .int .i64 0, .int .i64 0] 27));refine Seen.fin hs (Seen.agg (Seen.ex (l := [a, b]) hs (Seen.block (e := 27) hs hr7' ?_ ?_) (.as0 hs))) ⟨rfl, rfl⟩
 ·rw [hab]; simp [upd, p1, p2]
 ·rw [hab, List.length_append, hlx, hly]
end
end Go.Dl

-- Chapter 3: the package's reader: operators.
namespace Go.Dl
open Go Go.Proofs
set_option maxRecDepth 100000
def opsD : Nat → Nat → List Nat
 | _, 0 => []
 | h, n + 1 => h :: opsD (h - 1) n
theorem wordsL_get {o : Nat} (h : o < 22) : (wordsL.map dW)[o]? = some (dW (wordsN o)) := by
 rw [List.getElem?_map, wordsN, List.getD, List.getElem?_eq_getElem (by exact h)]; rfl
theorem wordsN_len (o : Nat) : (wordsN o).length ≤ 2 := by
 rw [wordsN, List.getD];by_cases h : o < 22
 ·have : ∀ i : Fin 22, ((wordsL[i.1]?).getD []).length ≤ 2 := by decide
  exact this ⟨o, h⟩
 ·rw [List.getElem?_eq_none (by have : wordsL.length = 22 := rfl; omega)]; decide
section
variable {G : Nat → DVal} {H0 H : DHeap} {r k : Nat} {l : List Tok}
theorem opF_cons (want : Nat) (o : Nat) (m : List Nat) : opF l want k (o :: m) = if isW l k (wordsN o) then (if want ≠ 0 ∧ o ≠ want then (0, k) else (o, k + (wordsN o).length)) else opF l want k m := rfl
set_option maxHeartbeats 4000000 in
theorem oper_spec (hG : GX G) (H : DHeap) (lo hi want : Nat) (h1 : 1 ≤ lo) (h2 : lo ≤ hi) (h3 : hi ≤ 21) (hr : H r = some (rdO l k)) (hl : l.length ≤ 1000000) (hk : k ≤ 900000) :
  DCalls Tryz.prog G 119 [.optr r 0, .int .u8 lo, .int .u8 hi, .int .u8 want] H (RdQ r l H (.int .u8 (opF l want k (opsD hi (hi + 1 - lo))).1) (opF l want k (opsD hi (hi + 1 - lo))).2) := by
 have hr' := hr;unfold rdO at hr';refine dcalls_intro Tryz.func119 Tryz.call119 rfl (by kernel_rfl) ?_;simp (disch := omega) only [go_sem];refine (words_spec G H).mono ?_;rintro _ H1 ⟨rfl, rfl⟩;simp (disch := omega) only [go_sem];obtain ⟨I, hI⟩ : ∃ I : Nat → (Nat → DVal) → DHeap → Prop, ∀ j env heap, I j env heap ↔ (env 0 = .optr r 0 ∧ env 1 = .int .u8 lo ∧ env 3 = .int .u8 want ∧ env 9 = dWords ∧ env 10 = .int .u8 ((hi - j : Nat) : Int) ∧ j ≤ hi + 1 - lo ∧ opF l want k (opsD hi (hi + 1 - lo)) = opF l want k (opsD (hi - j) (hi + 1 - lo - j)) ∧ heap = H1) := ⟨_, fun _ _ _ => Iff.rfl⟩;refine DLoop.run I (fun j => hi + 1 - lo - j) 0 ((hI _ _ _).2 ?_) ?_
 ·simp (disch := omega) only [go_sem];(repeat' apply And.intro) <;> (try first | rfl | assumption | omega)
 ·intro j env heap hi';obtain ⟨e0, e1, e3, e9, e10, hj, hm, rfl⟩ := (hI _ _ _).1 hi';by_cases hlt : j < hi + 1 - lo
  ·obtain ⟨o, ho⟩ : ∃ o, o = hi - j := ⟨_, rfl⟩;have hn : hi + 1 - lo - j = (hi + 1 - lo - (j + 1)) + 1 := by omega
   rw [hn, opsD, opF_cons, ← ho] at hm;rw [← ho] at e10;have hlt' : (lo : Int) ≤ (o : Int) := by omega
   have hwj : IntKind.u8.wrap ((o : Int) - 1) = ((hi - (j + 1) : Nat) : Int) := by
    rw [IntKind.wrap_u8]; omega
   have hget := wordsL_get (o := o) (by omega);have hwl := wordsN_len o;obtain ⟨ws, hws⟩ : ∃ ws, ws = wordsN o := ⟨_, rfl⟩;rw [← hws] at hget hwl hm;have hml : (wordsL.map dW).length = 22 := rfl;obtain ⟨W, hW⟩ : ∃ W, W = wordsL.map dW := ⟨_, rfl⟩;rw [← hW] at hget hml;simp (disch := omega) only [go_sem, e0, e1, e3, e9, e10, hlt', dWords, ← hW, hget, hml, Int.toNat_natCast];refine (is_spec hG heap ws hr hl hk (by omega)).mono ?_;rintro _ H2 ⟨rfl, rfl⟩;cases hb : isW l k ws with
   | false =>
    rw [hb] at hm;simp (disch := omega) only [go_sem, e0, e1, e3, e9, e10];refine ⟨j + 1, _, GhostS.refl _, (hI _ _ _).2 ?_, by omega⟩;simp (disch := omega) only [go_sem, e0, e1, e3, e9, e10, hwj];(repeat' apply And.intro) <;> (try first | rfl | assumption | omega);rw [hm, if_neg (by simp), Nat.sub_sub, ho];rfl
   | true =>
    rw [hb, if_pos rfl] at hm;have hwk : IntKind.i64.wrap ((k : Int) + (ws.length : Int)) = ((k + ws.length : Nat) : Int) := by rw [IntKind.wrap_i64]; omega
    by_cases c1 : want = 0
    ·have c1' : (want : Int) = 0 := by omega
     rw [if_neg (by omega)] at hm;simp (disch := omega) only [go_sem, e0, e1, e3, e9, e10, c1', dWords, ← hW, hget, hml, Int.toNat_natCast];refine dwp_draws (by kernel_rfl) (.take 0 (.take 1 (.take 2 (.take 3 (.take 4 (.take 5 (.take 6 (.take 7 (.take 8 (.take 9 (.take 10 (.take 11 (.go 12 [] .done))))))))))))) (by kernel_rfl) ?_;simp (disch := omega) only [go_sem, e0, e1, e3, e9, e10, dWords, ← hW, hget, hml, Int.toNat_natCast, hr', hwk, dW];rw [hm];exact DFin.refl ⟨rfl, rfl⟩
    ·have c1' : ¬ (want : Int) = 0 := by omega
     by_cases c2 : o = want
     ·have c2' : (o : Int) = (want : Int) := by omega
      rw [if_neg (by omega)] at hm;simp (disch := omega) only [go_sem, e0, e1, e3, e9, e10, c1', c2', dWords, ← hW, hget, hml, Int.toNat_natCast];refine dwp_draws (by kernel_rfl) (.take 0 (.take 1 (.take 2 (.take 3 (.take 4 (.take 5 (.take 6 (.take 7 (.take 8 (.take 9 (.take 10 (.take 11 (.go 12 [] .done))))))))))))) (by kernel_rfl) ?_;simp (disch := omega) only [go_sem, e0, e1, e3, e9, e10, dWords, ← hW, hget, hml, Int.toNat_natCast, hr', hwk, dW];rw [hm];exact DFin.refl ⟨rfl, rfl⟩
     ·have c2' : ¬ (o : Int) = (want : Int) := by omega
      rw [if_pos ⟨c1, c2⟩] at hm;simp (disch := omega) only [go_sem, e0, e1, e3, e9, e10, c1', c2'];rw [hm];exact DFin.refl ⟨rfl, (upd_get hr).symm⟩
  ·have : j = hi + 1 - lo := by omega
   subst this;have ho : hi - (hi + 1 - lo) = lo - 1 := by omega
   have hlt' : ¬ (lo : Int) ≤ ((lo - 1 : Nat) : Int) := by omega
   rw [Nat.sub_self, ho, opsD, opF] at hm;rw [ho] at e10;simp (disch := omega) only [go_sem, e0, e1, e3, e9, e10, hlt'];rw [hm];exact DFin.refl ⟨rfl, (upd_get hr).symm⟩
end
end Go.Dl

-- Chapter 3: the package's reader: chains of operands.
namespace Go.Dl
open Go Go.Proofs
set_option maxRecDepth 100000
def Res.mp {α : Type} (f : α → DVal) : Res α → Res DVal
 | .bot => .bot
 | .fail k => .fail k
 | .ok x k => .ok (f x) k
def dE (e : Ex) : DVal := .agg (dEx e)
section
variable {G : Nat → DVal} {H0 H : DHeap} {r k : Nat} {l : List Tok}
def RdC (P : Program) (G : Nat → DVal) (l : List Tok) (f : FuncId) (r : Nat) (res : Nat → Res DVal) : Prop :=
 ∀ H k, H r = some (rdO l k) → k ≤ l.length → res k ≠ .bot → DCalls P G f [.optr r 0] H (RdR r l H (res k))
set_option maxHeartbeats 4000000 in
theorem chain_spec (hG : GX G) (g : FuncId) (T : Nat → Nat → Res Ex) (L : Nat → Ex → Nat → Res Ex) (lo hi : Nat) (h1 : 1 ≤ lo) (h2 : lo ≤ hi) (h3 : hi ≤ 21) (hl : l.length ≤ 800000)
  (hL0 : ∀ x k, L 0 x k = .bot) (hL : ∀ m x k, L (m + 1) x k = if (opF l 0 k (opsD hi (hi + 1 - lo))).1 = 0 then .ok x k else (T m (opF l 0 k (opsD hi (hi + 1 - lo))).2).then fun y k' => L m (both (opF l 0 k (opsD hi (hi + 1 - lo))).1 x y) k')
  (hT : ∀ m k, k ≤ l.length → Adv l (k + 1) (T m k)) (hos : ∀ o ∈ opsD hi (hi + 1 - lo), o < 22 ∧ o ≠ 0)
  (n : Nat) (hg : ∀ m < n, RdC Tryz.prog G l g r fun k => (T m k).mp dE) (H : DHeap) (x : Ex) (k : Nat) (hr : H r = some (rdO l k)) (hk : k ≤ l.length) (hn : L n x k ≠ .bot) :
  DCalls Tryz.prog G 124 [.optr r 0, .agg (dEx x), .int .u8 lo, .int .u8 hi, .func (.func g) [.optr r 0] []] H (RdR r l H ((L n x k).mp dE)) := by
 refine dcalls_intro Tryz.func124 Tryz.call124 rfl (by kernel_rfl) ?_;simp (disch := omega) only [go_sem, DVal.cells];intro r6 hr6; dsimp only at hr6;simp (disch := omega) only [go_sem, DVal.cells];intro rx hrx; dsimp only at hrx;obtain ⟨m1, m2, hrx'⟩ := upd_eq_none.1 hrx;have n6 : r ≠ r6 := none_ne hr6 hr;have nx : r ≠ rx := none_ne hrx' hr;have ha := ((RAt.refl hr).new hr6 (some (.cells (dEx x) 27))).new hrx (some (.cells [.int .u8 0, .int .u8 0, .int .i64 0, .str [], .nilSlice, .nilSlice, .int .i64 0, .int .i64 0, .int .i64 0] 27));simp (disch := omega) only [go_sem, m1, m2, n6, nx];refine (oper_spec hG _ lo hi 0 h1 h2 h3 ha.get (by omega) (by omega)).mono ?_;rintro _ H1 ⟨rfl, rfl⟩;obtain ⟨os, hosd⟩ : ∃ os, os = opsD hi (hi + 1 - lo) := ⟨_, rfl⟩;rw [← hosd] at hL hos ⊢
 have q6 := n6.symm;have qx := nx.symm;obtain ⟨z, hz⟩ : ∃ z, z = (some (.cells [.int .u8 0, .int .u8 0, .int .i64 0, .str [], .nilSlice, .nilSlice, .int .i64 0, .int .i64 0, .int .i64 0] 27) : Option DObj) := ⟨_, rfl⟩;rw [← hz] at ha;obtain ⟨n', rfl⟩ : ∃ n', n = n' + 1 := by
  cases n with
  | zero => exact absurd (hL0 _ _) hn
  | succ n' => exact ⟨n', rfl⟩
 simp (disch := omega) only [go_sem, m1, m2, n6, nx];obtain ⟨I, hI⟩ : ∃ I : Nat × Ex × Nat → (Nat → DVal) → DHeap → Prop, ∀ s env heap, I s env heap ↔ (env 0 = .optr r 0 ∧ env 2 = .int .u8 lo ∧ env 3 = .int .u8 hi ∧ env 4 = .func (.func g) [.optr r 0] [] ∧ env 6 = .optr r6 0 ∧ env 10 = .optr rx 0 ∧ env 11 = .int .u8 (opF l 0 s.2.2 os).1 ∧ s.2.2 ≤ l.length ∧ s.1 ≤ n' ∧ L (s.1 + 1) s.2.1 s.2.2 = L (n' + 1) x k ∧ RAt r l (opF l 0 s.2.2 os).2 H heap ∧ heap r6 = some (.cells (dEx s.2.1) 27) ∧ heap rx = z) := ⟨_, fun _ _ _ => Iff.rfl⟩;refine DLoop.run I (fun s => s.1) (n', x, k) ((hI _ _ _).2 ?_) ?_
 ·simp (disch := omega) only [go_sem, ← hz, m1, m2, n6, nx, q6, qx];(repeat' apply And.intro) <;> (try first | rfl | assumption | omega);exact ha.set _
 ·rintro ⟨m, y, k1⟩ env heap hi';obtain ⟨e0, e2, e3, e4, e6, e10, e11, hk1, hm, hLm, hat, g6, gx⟩ := (hI _ _ _).1 hi';dsimp only at e11 hk1 hm hLm hat g6;rw [hL] at hLm;have hadv := opF_adv (want := 0) (os := os) (k := k1) (l := l) hos hk1;obtain ⟨o, ho⟩ : ∃ o, o = (opF l 0 k1 os).1 := ⟨_, rfl⟩;obtain ⟨k2, hk2⟩ : ∃ k2, k2 = (opF l 0 k1 os).2 := ⟨_, rfl⟩;rw [← ho, ← hk2] at hLm hadv;rw [← ho] at e11;rw [← hk2] at hat;by_cases c : o = 0
  ·have c' : (o : Int) = 0 := by omega
   rw [if_pos c] at hLm;rw [hz] at gx;have hk21 : k2 = k1 := hadv.1 c;rw [hk21] at hat;simp (disch := omega) only [go_sem, e0, e2, e3, e4, e6, e10, e11, c', g6, gx];rw [← hLm];exact RAt.fin (hat.own hrx' qx _) ⟨rfl, rfl⟩
  ·have c' : ¬ (o : Int) = 0 := by omega
   rw [if_neg c] at hLm;simp (disch := omega) only [go_sem, e0, e2, e3, e4, e6, e10, e11, c'];refine dwp_draws (by kernel_rfl) (.take 0 (.take 1 (.take 2 (.go 3 [1] (.go 4 [] (.go 5 [] .done)))))) (by kernel_rfl) ?_;simp (disch := omega) only [go_sem, e0, e2, e3, e4, e6, e10, e11, g6];have hTm := hT m k2 (by omega);have hgm := hg m (by omega) heap k2 hat.get (by omega);dsimp only at hgm;cases hTk : T m k2 with
   | bot => rw [hTk] at hLm; exact absurd hLm.symm hn
   | fail k3 =>
    rw [hTk] at hgm hLm;refine (hgm (by simp [Res.mp])).mono ?_;rintro e H2 ⟨rfl, rfl⟩;simp (disch := omega) only [go_sem];rw [← hLm];exact RAt.finP (hat.set k3) ⟨rfl, rfl⟩
   | ok y2 k3 =>
    rw [hTk] at hgm hLm hTm;dsimp only [Res.then, Adv] at hLm hTm;refine (hgm (by simp [Res.mp])).mono ?_;rintro e H2 ⟨rfl, rfl⟩;simp (disch := omega) only [go_sem, e0, e2, e3, e4, e6, e10, e11, dE, q6];refine (both_spec G _ o y y2).mono ?_;rintro _ H3 ⟨rfl, rfl⟩;have hby := dEx_len (both o y y2);have hb1 := dEx_one (both o y y2);have hly := dEx_len y;have hdr : (dEx y).drop 9 = [] := List.drop_eq_nil_of_le (by omega);simp (disch := omega) only [go_sem, e0, e2, e3, e4, e6, e10, e11, g6, n6, q6, hby, hb1, hly, hdr];have hat3 : RAt r l k3 H (upd (upd heap r (some (rdO l k3))) r6 (some (.cells (dEx (both o y y2)) 27))) := (hat.set k3).own hr6 q6 _;refine (oper_spec hG _ lo hi 0 h1 h2 h3 hat3.get (by omega) (by omega)).mono ?_;rintro _ H4 ⟨rfl, rfl⟩;rw [← hosd];obtain ⟨m', rfl⟩ : ∃ m', m = m' + 1 := by
     cases m with
     | zero => rw [hL0] at hLm; exact absurd hLm.symm hn
     | succ m' => exact ⟨m', rfl⟩
    simp (disch := omega) only [go_sem, e0, e2, e3, e4, e6, e10];refine ⟨(m', both o y y2, k3), _, GhostS.refl _, (hI _ _ _).2 ?_, by dsimp only; omega⟩;simp (disch := omega) only [go_sem, e0, e2, e3, e4, e6, e10, q6, qx, n6, nx, g6, gx, m1, m2, hLm];(repeat' apply And.intro) <;> (try first | rfl | assumption | omega);exact hat3.set _
end
end Go.Dl

-- Chapter 3: the package's reader: factors, terms, simples.
namespace Go.Dl
open Go Go.Proofs
set_option maxRecDepth 100000
section
variable {G : Nat → DVal} {H0 H : DHeap} {r k : Nat} {l : List Tok}
theorem operFac (hG : GX G) (H : DHeap) (hr : H r = some (rdO l k)) (hl : l.length ≤ 800000) (hk : k ≤ l.length) : DCalls Tryz.prog G 119 [.optr r 0, .int .u8 20, .int .u8 21, .int .u8 0] H (RdQ r l H (.int .u8 (opF l 0 k opsFac).1) (opF l 0 k opsFac).2) :=
 oper_spec hG H 20 21 0 (by decide) (by decide) (by decide) hr (by omega) (by omega)
theorem operSign (hG : GX G) (H : DHeap) (hr : H r = some (rdO l k)) (hl : l.length ≤ 800000) (hk : k ≤ l.length) : DCalls Tryz.prog G 119 [.optr r 0, .int .u8 18, .int .u8 19, .int .u8 0] H (RdQ r l H (.int .u8 (opF l 0 k opsSign).1) (opF l 0 k opsSign).2) :=
 oper_spec hG H 18 19 0 (by decide) (by decide) (by decide) hr (by omega) (by omega)
theorem operRel (hG : GX G) (H : DHeap) (hr : H r = some (rdO l k)) (hl : l.length ≤ 800000) (hk : k ≤ l.length) : DCalls Tryz.prog G 119 [.optr r 0, .int .u8 7, .int .u8 12, .int .u8 0] H (RdQ r l H (.int .u8 (opF l 0 k opsRel).1) (opF l 0 k opsRel).2) :=
 oper_spec hG H 7 12 0 (by decide) (by decide) (by decide) hr (by omega) (by omega)
theorem operLog (hG : GX G) (H : DHeap) (want : Nat) (hr : H r = some (rdO l k)) (hl : l.length ≤ 800000) (hk : k ≤ l.length) : DCalls Tryz.prog G 119 [.optr r 0, .int .u8 13, .int .u8 17, .int .u8 want] H (RdQ r l H (.int .u8 (opF l want k opsLog).1) (opF l want k opsLog).2) :=
 oper_spec hG H 13 17 want (by decide) (by decide) (by decide) hr (by omega) (by omega)
theorem mp_ne {α : Type} {f : α → DVal} {x : Res α} (h : x ≠ .bot) : x.mp f ≠ .bot := by cases x <;> simp_all [Res.mp]
theorem one_cells {x : List DVal} (hx : x.length = 9) :
  (if 9 ≤ (repl 1 [DVal.int .u8 0, DVal.int .u8 0, DVal.int .i64 0, DVal.str [], DVal.nilSlice, DVal.nilSlice, DVal.int .i64 0, DVal.int .i64 0, DVal.int .i64 0]).length then
   some (x ++ List.drop 9 (repl 1 [DVal.int .u8 0, DVal.int .u8 0, DVal.int .i64 0, DVal.str [], DVal.nilSlice, DVal.nilSlice, DVal.int .i64 0, DVal.int .i64 0, DVal.int .i64 0]))
  else none) = some x := by
 have e : ∀ u : List DVal, repl 1 u = u := fun u => by simp [repl]
 rw [e, if_pos (by simp), List.drop_eq_nil_of_le (by simp), List.append_nil]
theorem one_cell {x : List DVal} (hx : x.length = 9) (z : List DVal) (hz : z.length = 9) : x ++ z.drop 9 = x := by rw [List.drop_eq_nil_of_le (by omega), List.append_nil]
theorem keepU {H : DHeap} {r x : Nat} {y : Option DObj} {o : DObj} (h : H x = some o) (hn : x ≠ r) : upd H r y x = some o := by rw [upd_ne _ _ _ _ hn]; exact h
set_option maxHeartbeats 4000000 in
theorem factor_step (hG : GX G) (hl : l.length ≤ 800000) (p : PS) (hA : p.Adv l) (hp : RdC Tryz.prog G l 68 r fun k => (p.primary k).mp dE) : RdC Tryz.prog G l 67 r fun k => ((stepP l p).factor k).mp dE := by
 intro H k hr hk hn;dsimp only [stepP] at hn ⊢
 have hadv := opF_adv (want := 0) (os := opsFac) (k := k) (l := l) ops_ok.2.2.2.2.2 hk;refine dcalls_intro Tryz.func67 Tryz.call67 rfl (by kernel_rfl) ?_;simp (disch := omega) only [go_sem];intro r2 hr2; dsimp only at hr2;obtain ⟨Ha, hHa⟩ : ∃ K, K = upd H r2 (some (.cells [.int .u8 0, .int .u8 0, .int .i64 0, .str [], .nilSlice, .nilSlice, .int .i64 0, .int .i64 0, .int .i64 0] 27)) := ⟨_, rfl⟩;rw [← hHa];have gr2 : Ha r2 = some (.cells [.int .u8 0, .int .u8 0, .int .i64 0, .str [], .nilSlice, .nilSlice, .int .i64 0, .int .i64 0, .int .i64 0] 27) := by rw [hHa]; exact upd_same _ _ _
 have n2 : r ≠ r2 := none_ne hr2 hr;have q2 := n2.symm;have ha : RAt r l k H Ha := by rw [hHa]; exact (RAt.refl hr).new hr2 _
 simp (disch := omega) only [go_sem];refine (line_spec G _ ha.get (by omega) (by omega)).mono ?_;rintro _ H1 ⟨rfl, rfl⟩;simp (disch := omega) only [go_sem];refine (operFac hG _ ha.get hl hk).mono ?_;rintro _ H2 ⟨rfl, hH2⟩;obtain ⟨o, ho⟩ : ∃ o, o = (opF l 0 k opsFac).1 := ⟨_, rfl⟩;obtain ⟨k2, hk2⟩ : ∃ k2, k2 = (opF l 0 k opsFac).2 := ⟨_, rfl⟩;rw [← ho, ← hk2] at hadv hn ⊢
 rw [← hk2] at hH2;have ha2 : RAt r l k2 H H2 := by rw [hH2]; exact ha.set k2
 have g2 : H2 r2 = some (.cells [.int .u8 0, .int .u8 0, .int .i64 0, .str [], .nilSlice, .nilSlice, .int .i64 0, .int .i64 0, .int .i64 0] 27) := by rw [hH2]; exact keepU gr2 q2
 simp (disch := omega) only [go_sem];have hpk := hp _ k2 ha2.get (by omega);dsimp only at hpk;cases hpr : p.primary k2 with
 | bot => rw [hpr] at hn; exact absurd rfl hn
 | fail k3 =>
  rw [hpr] at hpk;refine (hpk (mp_ne (by simp))).mono ?_;rintro e H3 ⟨rfl, rfl⟩;simp (disch := omega) only [go_sem];exact RAt.finP (ha2.set k3) ⟨rfl, rfl⟩
 | ok x k3 =>
  rw [hpr] at hpk;refine (hpk (mp_ne (by simp))).mono ?_;rintro e H3 ⟨rfl, hH3⟩;have ha3 : RAt r l k3 H H3 := by rw [hH3]; exact ha2.set k3
  dsimp only [Res.then];have g3 : H3 r2 = some (.cells [.int .u8 0, .int .u8 0, .int .i64 0, .str [], .nilSlice, .nilSlice, .int .i64 0, .int .i64 0, .int .i64 0] 27) := by rw [hH3]; exact keepU g2 q2
  simp (disch := omega) only [go_sem, dE];intro r5 hr5; dsimp only at hr5;have n5 : r2 ≠ r5 := none_ne hr5 g3;have q5 := n5.symm;have hlx := dEx_len x;have hox := dEx_one x;have hc := one_cell hlx [.int .u8 0, .int .u8 0, .int .i64 0, .str [], .nilSlice, .nilSlice, .int .i64 0, .int .i64 0, .int .i64 0] rfl;simp (disch := omega) only [go_sem, n5, q5, g3, hlx, hox];by_cases c : o = 0
  ·have c' : (o : Int) = 0 := by omega
   simp (disch := omega) only [go_sem, n5, q5, g3, hlx, hox, c'];rw [show mona o (tk l k).line x = x by rw [mona, if_pos c]];exact RAt.fin ((ha3.new hr5 _).own hr2 q2 _) ⟨rfl, rfl⟩
  ·have c' : ¬ (o : Int) = 0 := by omega
   simp (disch := omega) only [go_sem, n5, q5, g3, hlx, hox, c'];rw [one_cells hlx];simp (disch := omega) only [go_sem, n5, q5, g3, hlx, hox, c'];intro r8 hr8; dsimp only at hr8;obtain ⟨m1, m2, hr8a⟩ := upd_eq_none.1 hr8;have n8 : r2 ≠ r8 := none_ne hr8a g3;have q8 := n8.symm;simp (disch := omega) only [go_sem, n5, q5, g3, hlx, hox, m1, m2, n8, q8];rw [show mona o (tk l k).line x = .mk 11 o 0 [] [x] [] (tk l k).line 0 0 by rw [mona, if_neg c]];have p5 : r ≠ r5 := none_ne hr5 ha3.get;have hs := (((ha3.new hr5 (some (.cells (dEx x) 27))).new hr8 (some (.cells (dEx x) 27))).own (ha3.lo hr5) p5.symm (some (.cells [.int .u8 11, .int .u8 o, .int .i64 0, .str [], .oslice 9 r8 0 1 1, .nilSlice, .int .i64 (tk l k).line, .int .i64 0, .int .i64 0] 27))).own hr2 q2 (some (.cells [.int .u8 11, .int .u8 o, .int .i64 0, .str [], .oslice 9 r8 0 1 1, .nilSlice, .int .i64 (tk l k).line, .int .i64 0, .int .i64 0] 27));refine Seen.fin hs (Seen.agg (Seen.ex (l := [x]) hs (Seen.block (e := 27) hs (Sub.lo ha3 hr8a) ?_ ?_) (.as0 hs))) ⟨rfl, rfl⟩
   ·rw [List.flatMap_singleton]; simp [upd, m1, m2, n8, q8]
   ·rw [List.flatMap_singleton, hlx]
theorem chainMul (hG : GX G) (hl : l.length ≤ 800000) (n : Nat) (hg : ∀ m < n, RdC Tryz.prog G l 67 r fun k => ((P l m).factor k).mp dE) (H : DHeap) (x : Ex) (k : Nat) (hr : H r = some (rdO l k)) (hk : k ≤ l.length) (hn : (P l n).mulL x k ≠ .bot) :
  DCalls Tryz.prog G 124 [.optr r 0, .agg (dEx x), .int .u8 3, .int .u8 6, .func (.func 67) [.optr r 0] []] H (RdR r l H (((P l n).mulL x k).mp dE)) :=
 chain_spec hG _ (fun m => (P l m).factor) (fun m => (P l m).mulL) 3 6 (by decide) (by decide) (by decide) hl (fun _ _ => rfl) (fun _ _ _ => rfl) (fun m k hk => (P_adv m).factor k hk) ops_ok.2.2.2.2.1 n hg H x k hr hk hn
theorem chainAdd (hG : GX G) (hl : l.length ≤ 800000) (n : Nat) (hg : ∀ m < n, RdC Tryz.prog G l 66 r fun k => ((P l m).term k).mp dE) (H : DHeap) (x : Ex) (k : Nat) (hr : H r = some (rdO l k)) (hk : k ≤ l.length) (hn : (P l n).addL x k ≠ .bot) :
  DCalls Tryz.prog G 124 [.optr r 0, .agg (dEx x), .int .u8 1, .int .u8 2, .func (.func 66) [.optr r 0] []] H (RdR r l H (((P l n).addL x k).mp dE)) :=
 chain_spec hG _ (fun m => (P l m).term) (fun m => (P l m).addL) 1 2 (by decide) (by decide) (by decide) hl (fun _ _ => rfl) (fun _ _ _ => rfl) (fun m k hk => (P_adv m).term k hk) ops_ok.2.2.2.1 n hg H x k hr hk hn
set_option maxHeartbeats 4000000 in
theorem term_step (hG : GX G) (hl : l.length ≤ 800000) (n : Nat) (hg : ∀ m ≤ n, RdC Tryz.prog G l 67 r fun k => ((P l m).factor k).mp dE) : RdC Tryz.prog G l 66 r fun k => ((P l (n + 1)).term k).mp dE := by
 intro H k hr hk hn;have e : (P l (n + 1)).term k = ((P l n).factor k).then fun x k => (P l n).mulL x k := rfl
 dsimp only at hn ⊢
 rw [e] at hn ⊢
 refine dcalls_intro Tryz.func66 Tryz.call66 rfl (by kernel_rfl) ?_;simp (disch := omega) only [go_sem];intro r2 hr2; dsimp only at hr2;obtain ⟨Ha, hHa⟩ : ∃ K, K = upd H r2 (some (.cells [.int .u8 0, .int .u8 0, .int .i64 0, .str [], .nilSlice, .nilSlice, .int .i64 0, .int .i64 0, .int .i64 0] 27)) := ⟨_, rfl⟩;rw [← hHa];have gr2 : Ha r2 = some (.cells [.int .u8 0, .int .u8 0, .int .i64 0, .str [], .nilSlice, .nilSlice, .int .i64 0, .int .i64 0, .int .i64 0] 27) := by rw [hHa]; exact upd_same _ _ _
 have n2 : r ≠ r2 := none_ne hr2 hr;have q2 := n2.symm;have ha : RAt r l k H Ha := by rw [hHa]; exact (RAt.refl hr).new hr2 _
 simp (disch := omega) only [go_sem];have hpk := hg n (Nat.le_refl _) _ k ha.get hk;have had := (P_adv (l := l) n).factor k hk;dsimp only at hpk;cases hpr : (P l n).factor k with
 | bot => rw [hpr] at hn; exact absurd rfl hn
 | fail k3 =>
  rw [hpr] at hpk;refine (hpk (mp_ne (by simp))).mono ?_;rintro e H3 ⟨rfl, rfl⟩;simp (disch := omega) only [go_sem];exact RAt.finP (ha.set k3) ⟨rfl, rfl⟩
 | ok x k3 =>
  rw [hpr] at hpk hn had;refine (hpk (mp_ne (by simp))).mono ?_;rintro e H3 ⟨rfl, hH3⟩;have ha3 : RAt r l k3 H H3 := by rw [hH3]; exact ha.set k3
  dsimp only [Res.then, Adv] at hn had ⊢
  have g3 : H3 r2 = some (.cells [.int .u8 0, .int .u8 0, .int .i64 0, .str [], .nilSlice, .nilSlice, .int .i64 0, .int .i64 0, .int .i64 0] 27) := by rw [hH3]; exact keepU gr2 q2
  simp (disch := omega) only [go_sem, dE];have hn2 : (P l n).mulL x k3 ≠ .bot := fun h => hn (by rw [h]; rfl);have hch := chainMul hG hl n (fun m hm => hg m (by omega)) H3 x k3 ha3.get (by omega) hn2;cases hpc : (P l n).mulL x k3 with
  | bot => exact absurd hpc hn2
  | fail k4 =>
   rw [hpc] at hch;refine hch.mono ?_;rintro e H4 ⟨rfl, rfl⟩;simp (disch := omega) only [go_sem];exact RAt.finP (ha3.set k4) ⟨rfl, rfl⟩
  | ok y k4 =>
   rw [hpc] at hch;refine hch.mono ?_;rintro e H4 ⟨rfl, hH4⟩;have ha4 : RAt r l k4 H H4 := by rw [hH4]; exact ha3.set k4
   have g4 : H4 r2 = some (.cells [.int .u8 0, .int .u8 0, .int .i64 0, .str [], .nilSlice, .nilSlice, .int .i64 0, .int .i64 0, .int .i64 0] 27) := by rw [hH4]; exact keepU g3 q2
   have hly := dEx_len y;have hoy := dEx_one y;simp (disch := omega) only [go_sem, dE, g4, hly, hoy];exact RAt.fin (ha4.own hr2 q2 _) ⟨rfl, rfl⟩
end
end Go.Dl

-- Chapter 3: the package's reader: simples.
namespace Go.Dl
open Go Go.Proofs
set_option maxRecDepth 100000
section
variable {G : Nat → DVal} {H0 H : DHeap} {r k : Nat} {l : List Tok}
set_option maxHeartbeats 4000000 in
theorem simple_step (hG : GX G) (hl : l.length ≤ 800000) (n : Nat) (hg : ∀ m ≤ n, RdC Tryz.prog G l 66 r fun k => ((P l m).term k).mp dE) : RdC Tryz.prog G l 65 r fun k => ((P l (n + 1)).simple k).mp dE := by
 intro H k hr hk hn;have e : (P l (n + 1)).simple k = ((P l n).term (opF l 0 k opsSign).2).then fun x k' => (P l n).addL (mona (opF l 0 k opsSign).1 (tk l k).line x) k' := rfl
 dsimp only at hn ⊢
 rw [e] at hn ⊢
 have hadv := opF_adv (want := 0) (os := opsSign) (k := k) (l := l) ops_ok.2.2.1 hk;refine dcalls_intro Tryz.func65 Tryz.call65 rfl (by kernel_rfl) ?_;simp (disch := omega) only [go_sem];intro r2 hr2; dsimp only at hr2;obtain ⟨Ha, hHa⟩ : ∃ K, K = upd H r2 (some (.cells [.int .u8 0, .int .u8 0, .int .i64 0, .str [], .nilSlice, .nilSlice, .int .i64 0, .int .i64 0, .int .i64 0] 27)) := ⟨_, rfl⟩;rw [← hHa];have gr2 : Ha r2 = some (.cells [.int .u8 0, .int .u8 0, .int .i64 0, .str [], .nilSlice, .nilSlice, .int .i64 0, .int .i64 0, .int .i64 0] 27) := by rw [hHa]; exact upd_same _ _ _
 have n2 : r ≠ r2 := none_ne hr2 hr;have q2 := n2.symm;have ha : RAt r l k H Ha := by rw [hHa]; exact (RAt.refl hr).new hr2 _
 simp (disch := omega) only [go_sem];refine (line_spec G _ ha.get (by omega) (by omega)).mono ?_;rintro _ H1 ⟨rfl, rfl⟩;simp (disch := omega) only [go_sem];refine (operSign hG _ ha.get hl hk).mono ?_;rintro _ H2 ⟨rfl, hH2⟩;obtain ⟨o, ho⟩ : ∃ o, o = (opF l 0 k opsSign).1 := ⟨_, rfl⟩;obtain ⟨k2, hk2⟩ : ∃ k2, k2 = (opF l 0 k opsSign).2 := ⟨_, rfl⟩;rw [← ho, ← hk2] at hadv hn ⊢
 rw [← hk2] at hH2;have ha2 : RAt r l k2 H H2 := by rw [hH2]; exact ha.set k2
 have g2 : H2 r2 = some (.cells [.int .u8 0, .int .u8 0, .int .i64 0, .str [], .nilSlice, .nilSlice, .int .i64 0, .int .i64 0, .int .i64 0] 27) := by rw [hH2]; exact keepU gr2 q2
 simp (disch := omega) only [go_sem];have hpk := hg n (Nat.le_refl _) _ k2 ha2.get (by omega);have had := (P_adv (l := l) n).term k2 (by omega);dsimp only at hpk;cases hpr : (P l n).term k2 with
 | bot => rw [hpr] at hn; exact absurd rfl hn
 | fail k3 =>
  rw [hpr] at hpk;refine (hpk (mp_ne (by simp))).mono ?_;rintro e H3 ⟨rfl, rfl⟩;simp (disch := omega) only [go_sem];exact RAt.finP (ha2.set k3) ⟨rfl, rfl⟩
 | ok x k3 =>
  rw [hpr] at hpk hn had;refine (hpk (mp_ne (by simp))).mono ?_;rintro e H3 ⟨rfl, hH3⟩;have ha3 : RAt r l k3 H H3 := by rw [hH3]; exact ha2.set k3
  dsimp only [Res.then, Adv] at hn had ⊢
  have g3 : H3 r2 = some (.cells [.int .u8 0, .int .u8 0, .int .i64 0, .str [], .nilSlice, .nilSlice, .int .i64 0, .int .i64 0, .int .i64 0] 27) := by rw [hH3]; exact keepU g2 q2
  have hn2 : (P l n).addL (mona o (tk l k).line x) k3 ≠ .bot := fun h => hn (by rw [h]; rfl);simp (disch := omega) only [go_sem, dE];intro r5 hr5; dsimp only at hr5;have n5 : r2 ≠ r5 := none_ne hr5 g3;have q5 := n5.symm;have p5 : r ≠ r5 := none_ne hr5 ha3.get;have hlx := dEx_len x;have hox := dEx_one x;simp (disch := omega) only [go_sem, n5, q5, g3, hlx, hox];by_cases c : o = 0
  ·have c' : (o : Int) = 0 := by omega
   simp (disch := omega) only [go_sem, n5, q5, g3, hlx, hox, c'];rw [show mona o (tk l k).line x = x by rw [mona, if_pos c]] at hn2 ⊢
   have ha5 := ha3.new hr5 (some (.cells (dEx x) 27));have g5 : upd H3 r5 (some (.cells (dEx x) 27)) r2 = some (.cells [.int .u8 0, .int .u8 0, .int .i64 0, .str [], .nilSlice, .nilSlice, .int .i64 0, .int .i64 0, .int .i64 0] 27) := keepU g3 n5;obtain ⟨H5, hH5⟩ : ∃ H5, H5 = upd H3 r5 (some (.cells (dEx x) 27)) := ⟨_, rfl⟩;rw [← hH5] at ha5 g5 ⊢
   have hch := chainAdd hG hl n (fun m hm => hg m (by omega)) H5 x k3 ha5.get (by omega) hn2;cases hpc : (P l n).addL x k3 with
   | bot => exact absurd hpc hn2
   | fail k4 =>
    rw [hpc] at hch;refine hch.mono ?_;rintro e H4 ⟨rfl, rfl⟩;simp (disch := omega) only [go_sem];exact RAt.finP (ha5.set k4) ⟨rfl, rfl⟩
   | ok y k4 =>
    rw [hpc] at hch;refine hch.mono ?_;rintro e H4 ⟨rfl, hH4⟩;have ha4 : RAt r l k4 H H4 := by rw [hH4]; exact ha5.set k4
    have g4 : H4 r2 = some (.cells [.int .u8 0, .int .u8 0, .int .i64 0, .str [], .nilSlice, .nilSlice, .int .i64 0, .int .i64 0, .int .i64 0] 27) := by rw [hH4]; exact keepU g5 q2
    have hly := dEx_len y;have hoy := dEx_one y;simp (disch := omega) only [go_sem, dE, g4, hly, hoy];exact RAt.fin (ha4.own hr2 q2 _) ⟨rfl, rfl⟩
  ·have c' : ¬ (o : Int) = 0 := by omega
   simp (disch := omega) only [go_sem, n5, q5, g3, hlx, hox, c'];rw [one_cells hlx];simp (disch := omega) only [go_sem, n5, q5, g3, hlx, hox, c'];intro r8 hr8; dsimp only at hr8;obtain ⟨m1, m2, hr8a⟩ := upd_eq_none.1 hr8;have n8 : r2 ≠ r8 := none_ne hr8a g3;have q8 := n8.symm;simp (disch := omega) only [go_sem, n5, q5, g3, hlx, hox, m1, m2, n8, q8];obtain ⟨xe, hxe⟩ : ∃ xe, xe = mona o (tk l k).line x := ⟨_, rfl⟩;rw [← hxe] at hn2 ⊢
   rw [show mona o (tk l k).line x = .mk 11 o 0 [] [x] [] (tk l k).line 0 0 by rw [mona, if_neg c]] at hxe;obtain ⟨c5, hc5⟩ : ∃ c5, c5 = (some (.cells [.int .u8 11, .int .u8 o, .int .i64 0, .str [], .oslice 9 r8 0 1 1, .nilSlice, .int .i64 (tk l k).line, .int .i64 0, .int .i64 0] 27) : Option DObj) := ⟨_, rfl⟩;obtain ⟨H5, hH5⟩ : ∃ H5, H5 = upd H3 r5 c5 := ⟨_, rfl⟩;have ha5 : RAt r l k3 H H5 := by rw [hH5]; exact ha3.new hr5 _
   have g5 : H5 r2 = some (.cells [.int .u8 0, .int .u8 0, .int .i64 0, .str [], .nilSlice, .nilSlice, .int .i64 0, .int .i64 0, .int .i64 0] 27) := by rw [hH5]; exact keepU g3 n5
   rw [← hc5];have hs8 : Sub H5 (upd (upd (upd H3 r5 (some (.cells (dEx x) 27))) r8 (some (.cells (dEx x) 27))) r5 c5) := by
    intro b ob hb;rw [hH5] at hb;simp only [upd] at hb ⊢
    by_cases e1 : b = r5
    ·rw [if_pos e1] at hb ⊢; exact hb
    ·rw [if_neg e1] at hb ⊢
     have e2 : b ≠ r8 := fun e => by rw [e, hr8a] at hb; cases hb
     rw [if_neg e2, if_neg e1]; exact hb
   have h58 : H5 r8 = none := by rw [hH5, upd_ne _ _ _ _ m1]; exact hr8a
   have hch := chainAdd hG hl n (fun m hm => hg m (by omega)) H5 xe k3 ha5.get (by omega) hn2;have hse : Seens (upd (upd (upd H3 r5 (some (.cells (dEx x) 27))) r8 (some (.cells (dEx x) 27))) r5 c5)
     [.optr r 0, .agg [.int .u8 11, .int .u8 o, .int .i64 0, .str [], .oslice 9 r8 0 1 1, .nilSlice, .int .i64 (tk l k).line, .int .i64 0, .int .i64 0], .int .u8 1, .int .u8 2, .func (.func 66) [.optr r 0] []] H5
     [.optr r 0, .agg (dEx xe), .int .u8 1, .int .u8 2, .func (.func 66) [.optr r 0] []] := by
    rw [hxe];refine .cons (.keep hs8 _) (.cons (Seen.agg (Seen.ex (l := [x]) hs8 (Seen.block (e := 27) hs8 h58 ?_ ?_) (.as0 hs8))) (.keep hs8 _))
    ·rw [List.flatMap_singleton]; simp [upd, m1, m2]
    ·rw [List.flatMap_singleton, hlx]
   refine hse.call hs8 ?_;cases hpc : (P l n).addL xe k3 with
   | bot => exact absurd hpc hn2
   | fail k4 =>
    rw [hpc] at hch;refine hch.mono ?_;rintro e H4 ⟨rfl, rfl⟩;simp (disch := omega) only [go_sem];exact RAt.finP (ha5.set k4) ⟨rfl, rfl⟩
   | ok y k4 =>
    rw [hpc] at hch;refine hch.mono ?_;rintro e H4 ⟨rfl, hH4⟩;have ha4 : RAt r l k4 H H4 := by rw [hH4]; exact ha5.set k4
    have g4 : H4 r2 = some (.cells [.int .u8 0, .int .u8 0, .int .i64 0, .str [], .nilSlice, .nilSlice, .int .i64 0, .int .i64 0, .int .i64 0] 27) := by rw [hH4]; exact keepU g5 q2
    have hly := dEx_len y;have hoy := dEx_one y;simp (disch := omega) only [go_sem, dE, g4, hly, hoy];exact RAt.fin (ha4.own hr2 q2 _) ⟨rfl, rfl⟩
end
end Go.Dl

-- Chapter 3: the package's reader: relations.
namespace Go.Dl
open Go Go.Proofs
set_option maxRecDepth 100000
section
variable {G : Nat → DVal} {H0 H : DHeap} {r k : Nat} {l : List Tok}
def RdC1 (P : Program) (G : Nat → DVal) (l : List Tok) (f : FuncId) (r : Nat) (a : DVal) (res : Nat → Res DVal) : Prop :=
 ∀ H k, H r = some (rdO l k) → k ≤ l.length → res k ≠ .bot → DCalls P G f [.optr r 0, a] H (RdR r l H (res k))
theorem OwnJ.set {H B H' : DHeap} {e : TypeId} {size n : Nat} {cs : List DVal} {v : DVal} {x : Nat} {o : DObj} (h : OwnJ B e size n cs v H') (s : Sub H B) (hx : H x = none) (hB : B x = some o) (y : Option DObj) : OwnJ H e size n cs v (upd H' x y) := by
 rcases h with ⟨a, b, c, d⟩ | ⟨q, h1, h2, h3, h4, h5⟩
 ·exact .inl ⟨a, b, c, Sub.up (s.trans d) hx _⟩
 ·have hq : q ≠ x := fun e => by rw [e, hB] at h1; cases h1
  exact .inr ⟨q, s.lo h1, h2, h3, by rw [upd_ne _ _ _ _ hq]; exact h4, Sub.up (s.trans h5) hx _⟩
theorem Sub.move {H H' : DHeap} (h : Sub H H') (r : Nat) (x : Option DObj) : Sub (upd H r x) (upd H' r x) := h.both r x
set_option maxHeartbeats 4000000 in
theorem relation_step (hG : GX G) (hl : l.length ≤ 800000) (p : PS) (hA : p.Adv l) (hp : RdC Tryz.prog G l 65 r fun k => (p.simple k).mp dE) (x : Ex) : RdC1 Tryz.prog G l 64 r (.agg (dEx x)) fun k => ((stepP l p).relation x k).mp dE := by
 intro H k hr hk hn;dsimp only [stepP] at hn ⊢
 have hadv := opF_adv (want := 0) (os := opsRel) (k := k) (l := l) ops_ok.2.1 hk;have hlx := dEx_len x;have hox := dEx_one x;have hla : (dEx x)[6]? = some (dI x.line) := by cases x; rfl
 refine dcalls_intro Tryz.func64 Tryz.call64 rfl (by kernel_rfl) ?_;simp (disch := omega) only [go_sem, DVal.cells];intro r3 hr3; dsimp only at hr3;obtain ⟨Hb, hHb⟩ : ∃ K, K = upd H r3 (some (.cells (dEx x) 27)) := ⟨_, rfl⟩;rw [← hHb];have gr3 : Hb r3 = some (.cells (dEx x) 27) := by rw [hHb]; exact upd_same _ _ _
 have n3 : r ≠ r3 := none_ne hr3 hr;have q3 := n3.symm;simp (disch := omega) only [go_sem, DVal.cells];intro r4 hr4; dsimp only at hr4;obtain ⟨Ha, hHa⟩ : ∃ K, K = upd Hb r4 (some (.cells [.int .u8 0, .int .u8 0, .int .i64 0, .str [], .nilSlice, .nilSlice, .int .i64 0, .int .i64 0, .int .i64 0] 27)) := ⟨_, rfl⟩;rw [← hHa];have gr4 : Ha r4 = some (.cells [.int .u8 0, .int .u8 0, .int .i64 0, .str [], .nilSlice, .nilSlice, .int .i64 0, .int .i64 0, .int .i64 0] 27) := by rw [hHa]; exact upd_same _ _ _
 have hab : RAt r l k H Hb := by rw [hHb]; exact (RAt.refl hr).new hr3 _
 have n4 : r ≠ r4 := none_ne hr4 hab.get;have q4 := n4.symm;have m3 : r3 ≠ r4 := none_ne hr4 gr3;have m4 := m3.symm;have h04 : H r4 = none := hab.lo hr4;have ha : RAt r l k H Ha := by rw [hHa]; exact hab.new hr4 _
 have g3 : Ha r3 = some (.cells (dEx x) 27) := by rw [hHa]; exact keepU gr3 m3
 simp (disch := omega) only [go_sem];refine (operRel hG _ ha.get hl hk).mono ?_;rintro _ H2 ⟨rfl, hH2⟩;obtain ⟨o, ho⟩ : ∃ o, o = (opF l 0 k opsRel).1 := ⟨_, rfl⟩;obtain ⟨k2, hk2⟩ : ∃ k2, k2 = (opF l 0 k opsRel).2 := ⟨_, rfl⟩;rw [← ho, ← hk2] at hadv hn ⊢
 rw [← hk2] at hH2;have ha2 : RAt r l k2 H H2 := by rw [hH2]; exact ha.set k2
 have g23 : H2 r3 = some (.cells (dEx x) 27) := by rw [hH2]; exact keepU g3 q3
 have g24 : H2 r4 = some (.cells [.int .u8 0, .int .u8 0, .int .i64 0, .str [], .nilSlice, .nilSlice, .int .i64 0, .int .i64 0, .int .i64 0] 27) := by rw [hH2]; exact keepU gr4 q4
 by_cases c : o = 0
 ·have c' : (o : Int) = 0 := by omega
  have hk21 : k2 = k := hadv.1 c;rw [if_neg (by omega)] at hn ⊢
  rw [hk21] at ha2;simp (disch := omega) only [go_sem, c'];intro q1 hq1; dsimp only at hq1;simp (disch := omega) only [go_sem];refine (may1 hG H2 q1 wIn hq1 ha2.get (by omega) (by omega)).mono ?_;rintro _ H4 ⟨rfl, hH4⟩;by_cases b1 : isW l k [wIn] = true
  ·rw [if_pos b1] at hn hH4 ⊢
   have ha4 : RAt r l (k + 1) H H4 := by rw [hH4]; exact ha2.set _
   have g43 : H4 r3 = some (.cells (dEx x) 27) := by rw [hH4]; exact keepU g23 q3
   have g44 : H4 r4 = some (.cells [.int .u8 0, .int .u8 0, .int .i64 0, .str [], .nilSlice, .nilSlice, .int .i64 0, .int .i64 0, .int .i64 0] 27) := by rw [hH4]; exact keepU g24 q4
   have hk4l := isW_lt b1 hk;obtain ⟨k4, hk4⟩ : ∃ k4, k4 = k + 1 := ⟨_, rfl⟩;rw [← hk4] at hn ha4 ⊢
   rw [List.length_singleton, ← hk4] at hk4l;simp (disch := omega) only [go_sem, b1];refine dwp_draws (by kernel_rfl) (.take 0 (.take 1 (.go 2 [0] (.go 3 [] (.take 4 .done))))) (by kernel_rfl) ?_;simp (disch := omega) only [go_sem, g43];unfold inK at hn ⊢
   have hpk := hp _ k4 ha4.get hk4l;dsimp only at hpk;have had := hA.simple k4 hk4l;cases hpr : p.simple k4 with
   | bot => rw [hpr] at hn; exact absurd rfl hn
   | fail k5 =>
    rw [hpr] at hpk;refine (hpk (mp_ne (by simp))).mono ?_;rintro e H5 ⟨rfl, rfl⟩;simp (disch := omega) only [go_sem];exact RAt.finP (ha4.set k5) ⟨rfl, rfl⟩
   | ok y k5 =>
    rw [hpr] at hpk hn had;refine (hpk (mp_ne (by simp))).mono ?_;rintro e H5 ⟨rfl, hH5⟩;have ha5 : RAt r l k5 H H5 := by rw [hH5]; exact ha4.set k5
    have g53 : H5 r3 = some (.cells (dEx x) 27) := by rw [hH5]; exact keepU g43 q3
    have g54 : H5 r4 = some (.cells [.int .u8 0, .int .u8 0, .int .i64 0, .str [], .nilSlice, .nilSlice, .int .i64 0, .int .i64 0, .int .i64 0] 27) := by rw [hH5]; exact keepU g44 q4
    dsimp only [Res.then, Adv] at hn had ⊢
    have hly := dEx_len y;simp (disch := omega) only [go_sem, dE, g43, g53];rw [two_cells hlx hly];simp (disch := omega) only [go_sem];intro r7 hr7; dsimp only at hr7;have hxy : [x, y].flatMap dEx = dEx x ++ dEx y := by simp
    obtain ⟨H7, hH7⟩ : ∃ K, K = upd H5 r7 (some (.cells (dEx x ++ dEx y) 27)) := ⟨_, rfl⟩;rw [← hH7];have g77 : H7 r7 = some (.cells (dEx x ++ dEx y) 27) := by rw [hH7]; exact upd_same _ _ _
    have n37 : r3 ≠ r7 := none_ne hr7 g53;have n47 : r4 ≠ r7 := none_ne hr7 g54;have nr7 : r ≠ r7 := none_ne hr7 ha5.get;have ha7 : RAt r l k5 H H7 := by rw [hH7]; exact ha5.new hr7 _
    have g73 : H7 r3 = some (.cells (dEx x) 27) := by rw [hH7]; exact keepU g53 n37
    have g74 : H7 r4 = some (.cells [.int .u8 0, .int .u8 0, .int .i64 0, .str [], .nilSlice, .nilSlice, .int .i64 0, .int .i64 0, .int .i64 0] 27) := by rw [hH7]; exact keepU g54 n47
    have s57 : Sub H5 H7 := by rw [hH7]; exact (Sub.refl _).new hr7 _
    simp (disch := omega) only [go_sem];intro q7 hq7; dsimp only at hq7;simp (disch := omega) only [go_sem];refine (may1 hG H7 q7 wDots hq7 ha7.get (by omega) (by omega)).mono ?_;rintro _ H8 ⟨rfl, hH8⟩;by_cases b3 : isW l k5 [wDots] = true
    ·rw [if_pos b3] at hn hH8 ⊢
     simp (disch := omega) only [go_sem, b3];have ha8 : RAt r l (k5 + 1) H H8 := by rw [hH8]; exact ha7.set _
     have g83 : H8 r3 = some (.cells (dEx x) 27) := by rw [hH8]; exact keepU g73 q3
     have g84 : H8 r4 = some (.cells [.int .u8 0, .int .u8 0, .int .i64 0, .str [], .nilSlice, .nilSlice, .int .i64 0, .int .i64 0, .int .i64 0] 27) := by rw [hH8]; exact keepU g74 q4
     have hk5 := isW_lt b3 (by omega);rw [List.length_singleton] at hk5;have hpz := hp _ (k5 + 1) ha8.get hk5;dsimp only at hpz;cases hpz2 : p.simple (k5 + 1) with
     | bot => rw [hpz2] at hn; exact absurd rfl hn
     | fail k6 =>
      rw [hpz2] at hpz;refine (hpz (mp_ne (by simp))).mono ?_;rintro e H9 ⟨rfl, rfl⟩;simp (disch := omega) only [go_sem];exact RAt.finP (ha8.set k6) ⟨rfl, rfl⟩
     | ok z k6 =>
      rw [hpz2] at hpz hn;refine (hpz (mp_ne (by simp))).mono ?_;rintro e H9 ⟨rfl, hH9⟩;have hlz := dEx_len z;dsimp only [Res.then];simp (disch := omega) only [go_sem, dE];rw [one_cells hlz];simp (disch := omega) only [go_sem];intro r10 hr10; dsimp only at hr10;obtain ⟨Bk, hBk⟩ : ∃ K, K = upd H5 r (some (rdO l k6)) := ⟨_, rfl⟩;have hH9' : H9 = upd H7 r (some (rdO l k6)) := by
       rw [hH9, hH8]; funext b; simp only [upd]; split <;> rfl
      have hBH : Sub Bk H9 := by rw [hBk, hH9']; exact s57.move r _
      have hv : OwnJ Bk 27 9 2 ([x, y].flatMap dEx) (.oslice 9 r7 0 2 2) H9 := .inr ⟨r7, by rw [hBk, upd_ne _ _ _ _ nr7.symm]; exact hr7, by rw [hxy, List.length_append, hlx, hly], rfl, by rw [hxy, hH9']; exact keepU g77 nr7.symm, hBH⟩;rw [hxy] at hv;have g97 : H9 r7 = some (.cells (dEx x ++ dEx y) 27) := by rw [hH9']; exact keepU g77 nr7.symm
      have n710 : r7 ≠ r10 := none_ne hr10 g97;simp (disch := omega) only [go_sem];rw [if_neg n710, g97];refine OwnJ.appendO (m := 1) (hv.new hr10 _) hlz (by omega) fun v2 H10 hv2 => ?_;have e3 : dEx x ++ dEx y ++ dEx z = [x, y, z].flatMap dEx := by simp
      rw [e3] at hv2;have h9 : RAt r l k6 H Bk := by rw [hBk]; exact ha5.set k6
      have b3 : Bk r3 = some (.cells (dEx x) 27) := by rw [hBk]; exact keepU g53 q3
      have b4 : Bk r4 = some (.cells [.int .u8 0, .int .u8 0, .int .i64 0, .str [], .nilSlice, .nilSlice, .int .i64 0, .int .i64 0, .int .i64 0] 27) := by rw [hBk]; exact keepU g54 q4
      have g103 := hv2.keep b3;have g104 := hv2.keep b4;obtain ⟨hc1, hc2⟩ := hv2.cell1;have hvf := fun yy => hv2.set h9 (x := r4) (by rw [upd_ne _ _ _ _ q4]; exact h04) b4 yy;simp (disch := omega) only [go_sem, g103, g104, hc1, hc2, hla];exact Seen.fin (hvf _).sub (Seen.agg (Seen.ex (l := [x, y, z]) (hvf _).sub (Seen.own (hvf _)) (.as0 (hvf _).sub))) ⟨rfl, rfl⟩
    ·have b3' : isW l k5 [wDots] = false := by simpa using b3
     rw [if_neg b3] at hn hH8 ⊢
     rw [upd_get ha7.get] at hH8;subst hH8;have hgy : List.take 9 (List.drop 9 (dEx x ++ dEx y)) = dEx y := by rw [List.drop_left' hlx]; exact List.take_of_length_le (by omega)
     have hl18 : 18 ≤ (dEx x ++ dEx y).length := by rw [List.length_append]; omega
     simp (disch := omega) only [go_sem, b3', g77, hgy, hlx, hly, hl18];refine (namedE_spec G _ y).mono ?_;rintro _ H9 ⟨rfl, rfl⟩;by_cases b4 : namedE y = true
     ·rw [if_pos b4] at hn ⊢
      have hv : OwnJ H5 27 9 2 ([x, y].flatMap dEx) (.oslice 9 r7 0 2 2) H9 := .inr ⟨r7, hr7, by rw [hxy, List.length_append, hlx, hly], rfl, by rw [hxy]; exact g77, s57⟩;have hvf := fun yy => hv.set ha5 (x := r4) (by rw [upd_ne _ _ _ _ q4]; exact h04) g54 yy;simp (disch := omega) only [go_sem, b4, g73, g74, hla];exact Seen.fin (hvf _).sub (Seen.agg (Seen.ex (l := [x, y]) (hvf _).sub (Seen.own (hvf _)) (.as0 (hvf _).sub))) ⟨rfl, rfl⟩
     ·have b4' : namedE y = false := by simpa using b4
      rw [if_neg b4] at hn ⊢
      simp (disch := omega) only [go_sem, b4'];refine (fail_spec G _ ha7.get).mono ?_;rintro _ H10 ⟨rfl, rfl⟩;simp (disch := omega) only [go_sem];exact RAt.finP ha7 ⟨rfl, rfl⟩
  ·have b1' : isW l k [wIn] = false := by simpa using b1
   rw [if_neg b1] at hn hH4 ⊢
   rw [upd_get ha2.get] at hH4;subst hH4;simp (disch := omega) only [go_sem, b1'];intro q2 hq2; dsimp only at hq2;simp (disch := omega) only [go_sem];refine (may2 hG _ q2 wNot wIn hq2 ha2.get (by omega) (by omega)).mono ?_;rintro _ H4 ⟨rfl, hH4⟩;by_cases b2 : isW l k [wNot, wIn] = true
   ·rw [if_pos b2] at hn hH4 ⊢
    have ha4 : RAt r l (k + 2) H H4 := by rw [hH4]; exact ha2.set _
    have g43 : H4 r3 = some (.cells (dEx x) 27) := by rw [hH4]; exact keepU g23 q3
    have g44 : H4 r4 = some (.cells [.int .u8 0, .int .u8 0, .int .i64 0, .str [], .nilSlice, .nilSlice, .int .i64 0, .int .i64 0, .int .i64 0] 27) := by rw [hH4]; exact keepU g24 q4
    have hk4l := isW_lt b2 hk;obtain ⟨k4, hk4⟩ : ∃ k4, k4 = k + 2 := ⟨_, rfl⟩;rw [← hk4] at hn ha4 ⊢
    rw [show [wNot, wIn].length = 2 from rfl, ← hk4] at hk4l;simp (disch := omega) only [go_sem, b2];refine dwp_draws (by kernel_rfl) (.take 0 (.take 1 (.go 2 [0] (.go 3 [] (.take 4 .done))))) (by kernel_rfl) ?_;simp (disch := omega) only [go_sem, g43];unfold inK at hn ⊢
    have hpk := hp _ k4 ha4.get hk4l;dsimp only at hpk;have had := hA.simple k4 hk4l;cases hpr : p.simple k4 with
    | bot => rw [hpr] at hn; exact absurd rfl hn
    | fail k5 =>
     rw [hpr] at hpk;refine (hpk (mp_ne (by simp))).mono ?_;rintro e H5 ⟨rfl, rfl⟩;simp (disch := omega) only [go_sem];exact RAt.finP (ha4.set k5) ⟨rfl, rfl⟩
    | ok y k5 =>
     rw [hpr] at hpk hn had;refine (hpk (mp_ne (by simp))).mono ?_;rintro e H5 ⟨rfl, hH5⟩;have ha5 : RAt r l k5 H H5 := by rw [hH5]; exact ha4.set k5
     have g53 : H5 r3 = some (.cells (dEx x) 27) := by rw [hH5]; exact keepU g43 q3
     have g54 : H5 r4 = some (.cells [.int .u8 0, .int .u8 0, .int .i64 0, .str [], .nilSlice, .nilSlice, .int .i64 0, .int .i64 0, .int .i64 0] 27) := by rw [hH5]; exact keepU g44 q4
     dsimp only [Res.then, Adv] at hn had ⊢
     have hly := dEx_len y;simp (disch := omega) only [go_sem, dE, g43, g53];rw [two_cells hlx hly];simp (disch := omega) only [go_sem];intro r7 hr7; dsimp only at hr7;have hxy : [x, y].flatMap dEx = dEx x ++ dEx y := by simp
     obtain ⟨H7, hH7⟩ : ∃ K, K = upd H5 r7 (some (.cells (dEx x ++ dEx y) 27)) := ⟨_, rfl⟩;rw [← hH7];have g77 : H7 r7 = some (.cells (dEx x ++ dEx y) 27) := by rw [hH7]; exact upd_same _ _ _
     have n37 : r3 ≠ r7 := none_ne hr7 g53;have n47 : r4 ≠ r7 := none_ne hr7 g54;have nr7 : r ≠ r7 := none_ne hr7 ha5.get;have ha7 : RAt r l k5 H H7 := by rw [hH7]; exact ha5.new hr7 _
     have g73 : H7 r3 = some (.cells (dEx x) 27) := by rw [hH7]; exact keepU g53 n37
     have g74 : H7 r4 = some (.cells [.int .u8 0, .int .u8 0, .int .i64 0, .str [], .nilSlice, .nilSlice, .int .i64 0, .int .i64 0, .int .i64 0] 27) := by rw [hH7]; exact keepU g54 n47
     have s57 : Sub H5 H7 := by rw [hH7]; exact (Sub.refl _).new hr7 _
     simp (disch := omega) only [go_sem];intro q7 hq7; dsimp only at hq7;simp (disch := omega) only [go_sem];refine (may1 hG H7 q7 wDots hq7 ha7.get (by omega) (by omega)).mono ?_;rintro _ H8 ⟨rfl, hH8⟩;by_cases b3 : isW l k5 [wDots] = true
     ·rw [if_pos b3] at hn hH8 ⊢
      simp (disch := omega) only [go_sem, b3];have ha8 : RAt r l (k5 + 1) H H8 := by rw [hH8]; exact ha7.set _
      have g83 : H8 r3 = some (.cells (dEx x) 27) := by rw [hH8]; exact keepU g73 q3
      have g84 : H8 r4 = some (.cells [.int .u8 0, .int .u8 0, .int .i64 0, .str [], .nilSlice, .nilSlice, .int .i64 0, .int .i64 0, .int .i64 0] 27) := by rw [hH8]; exact keepU g74 q4
      have hk5 := isW_lt b3 (by omega);rw [List.length_singleton] at hk5;have hpz := hp _ (k5 + 1) ha8.get hk5;dsimp only at hpz;cases hpz2 : p.simple (k5 + 1) with
      | bot => rw [hpz2] at hn; exact absurd rfl hn
      | fail k6 =>
       rw [hpz2] at hpz;refine (hpz (mp_ne (by simp))).mono ?_;rintro e H9 ⟨rfl, rfl⟩;simp (disch := omega) only [go_sem];exact RAt.finP (ha8.set k6) ⟨rfl, rfl⟩
      | ok z k6 =>
       rw [hpz2] at hpz hn;refine (hpz (mp_ne (by simp))).mono ?_;rintro e H9 ⟨rfl, hH9⟩;have hlz := dEx_len z;dsimp only [Res.then];simp (disch := omega) only [go_sem, dE];rw [one_cells hlz];simp (disch := omega) only [go_sem];intro r10 hr10; dsimp only at hr10;obtain ⟨Bk, hBk⟩ : ∃ K, K = upd H5 r (some (rdO l k6)) := ⟨_, rfl⟩;have hH9' : H9 = upd H7 r (some (rdO l k6)) := by
        rw [hH9, hH8]; funext b; simp only [upd]; split <;> rfl
       have hBH : Sub Bk H9 := by rw [hBk, hH9']; exact s57.move r _
       have hv : OwnJ Bk 27 9 2 ([x, y].flatMap dEx) (.oslice 9 r7 0 2 2) H9 := .inr ⟨r7, by rw [hBk, upd_ne _ _ _ _ nr7.symm]; exact hr7, by rw [hxy, List.length_append, hlx, hly], rfl, by rw [hxy, hH9']; exact keepU g77 nr7.symm, hBH⟩;rw [hxy] at hv;have g97 : H9 r7 = some (.cells (dEx x ++ dEx y) 27) := by rw [hH9']; exact keepU g77 nr7.symm
       have n710 : r7 ≠ r10 := none_ne hr10 g97;simp (disch := omega) only [go_sem];rw [if_neg n710, g97];refine OwnJ.appendO (m := 1) (hv.new hr10 _) hlz (by omega) fun v2 H10 hv2 => ?_;have e3 : dEx x ++ dEx y ++ dEx z = [x, y, z].flatMap dEx := by simp
       rw [e3] at hv2;have h9 : RAt r l k6 H Bk := by rw [hBk]; exact ha5.set k6
       have b3 : Bk r3 = some (.cells (dEx x) 27) := by rw [hBk]; exact keepU g53 q3
       have b4 : Bk r4 = some (.cells [.int .u8 0, .int .u8 0, .int .i64 0, .str [], .nilSlice, .nilSlice, .int .i64 0, .int .i64 0, .int .i64 0] 27) := by rw [hBk]; exact keepU g54 q4
       have g103 := hv2.keep b3;have g104 := hv2.keep b4;obtain ⟨hc1, hc2⟩ := hv2.cell1;have hvf := fun yy => hv2.set h9 (x := r4) (by rw [upd_ne _ _ _ _ q4]; exact h04) b4 yy;simp (disch := omega) only [go_sem, g103, g104, hc1, hc2, hla];exact Seen.fin (hvf _).sub (Seen.agg (Seen.ex (l := [x, y, z]) (hvf _).sub (Seen.own (hvf _)) (.as0 (hvf _).sub))) ⟨rfl, rfl⟩
     ·have b3' : isW l k5 [wDots] = false := by simpa using b3
      rw [if_neg b3] at hn hH8 ⊢
      rw [upd_get ha7.get] at hH8;subst hH8;have hgy : List.take 9 (List.drop 9 (dEx x ++ dEx y)) = dEx y := by rw [List.drop_left' hlx]; exact List.take_of_length_le (by omega)
      have hl18 : 18 ≤ (dEx x ++ dEx y).length := by rw [List.length_append]; omega
      simp (disch := omega) only [go_sem, b3', g77, hgy, hlx, hly, hl18];refine (namedE_spec G _ y).mono ?_;rintro _ H9 ⟨rfl, rfl⟩;by_cases b4 : namedE y = true
      ·rw [if_pos b4] at hn ⊢
       have hv : OwnJ H5 27 9 2 ([x, y].flatMap dEx) (.oslice 9 r7 0 2 2) H9 := .inr ⟨r7, hr7, by rw [hxy, List.length_append, hlx, hly], rfl, by rw [hxy]; exact g77, s57⟩;have hvf := fun yy => hv.set ha5 (x := r4) (by rw [upd_ne _ _ _ _ q4]; exact h04) g54 yy;simp (disch := omega) only [go_sem, b4, g73, g74, hla];exact Seen.fin (hvf _).sub (Seen.agg (Seen.ex (l := [x, y]) (hvf _).sub (Seen.own (hvf _)) (.as0 (hvf _).sub))) ⟨rfl, rfl⟩
      ·have b4' : namedE y = false := by simpa using b4
       rw [if_neg b4] at hn ⊢
       simp (disch := omega) only [go_sem, b4'];refine (fail_spec G _ ha7.get).mono ?_;rintro _ H10 ⟨rfl, rfl⟩;simp (disch := omega) only [go_sem];exact RAt.finP ha7 ⟨rfl, rfl⟩
   ·have b2' : isW l k [wNot, wIn] = false := by simpa using b2
    rw [if_neg b2] at hn hH4 ⊢
    rw [upd_get ha2.get] at hH4;subst hH4;simp (disch := omega) only [go_sem, b2', g23, g24, hlx, hox];exact RAt.fin (ha2.own h04 q4 _) ⟨rfl, rfl⟩
 ·have c' : ¬ (o : Int) = 0 := by omega
  rw [if_pos c] at hn ⊢
  simp (disch := omega) only [go_sem, c'];refine dwp_draws (by kernel_rfl) (.take 0 (.take 1 (.take 2 (.go 3 [1] (.go 4 [] (.go 5 [] .done)))))) (by kernel_rfl) ?_;simp (disch := omega) only [go_sem, g23];have hpk := hp _ k2 ha2.get (by omega);dsimp only at hpk;cases hpr : p.simple k2 with
  | bot => rw [hpr] at hn; exact absurd rfl hn
  | fail k3 =>
   rw [hpr] at hpk;refine (hpk (mp_ne (by simp))).mono ?_;rintro e H3 ⟨rfl, rfl⟩;simp (disch := omega) only [go_sem];exact RAt.finP (ha2.set k3) ⟨rfl, rfl⟩
  | ok y k3 =>
   rw [hpr] at hpk;refine (hpk (mp_ne (by simp))).mono ?_;rintro e H3 ⟨rfl, hH3⟩;have ha3 : RAt r l k3 H H3 := by rw [hH3]; exact ha2.set k3
   have g33 : H3 r3 = some (.cells (dEx x) 27) := by rw [hH3]; exact keepU g23 q3
   have g34 : H3 r4 = some (.cells [.int .u8 0, .int .u8 0, .int .i64 0, .str [], .nilSlice, .nilSlice, .int .i64 0, .int .i64 0, .int .i64 0] 27) := by rw [hH3]; exact keepU g24 q4
   dsimp only [Res.then];simp (disch := omega) only [go_sem, dE, g23, g33];refine (both_spec G _ o x y).mono ?_;rintro _ H5 ⟨rfl, rfl⟩;have hly := dEx_len (both o x y);have hoy := dEx_one (both o x y);simp (disch := omega) only [go_sem, g34, hly, hoy];exact RAt.fin (ha3.own h04 q4 _) ⟨rfl, rfl⟩
end
end Go.Dl

-- Chapter 3: the package's reader: expressions.
namespace Go.Dl
open Go Go.Proofs
set_option maxRecDepth 100000
section
variable {G : Nat → DVal} {H0 H : DHeap} {r k : Nat} {l : List Tok}
set_option maxHeartbeats 4000000 in
theorem expr_step (hl : l.length ≤ 800000) (p : PS) (hA : p.Adv l) (hs : RdC Tryz.prog G l 65 r fun k => (p.simple k).mp dE) (hr1 : ∀ x, RdC1 Tryz.prog G l 118 r (.agg (dEx x)) fun k => (p.rest x k).mp dE) : RdC Tryz.prog G l 62 r fun k => ((stepP l p).expr k).mp dE := by
 intro H k hr hk hn;dsimp only [stepP] at hn ⊢
 refine dcalls_intro Tryz.func62 Tryz.call62 rfl (by kernel_rfl) ?_;simp (disch := omega) only [go_sem];intro r2 hr2; dsimp only at hr2;obtain ⟨Ha, hHa⟩ : ∃ K, K = upd H r2 (some (.cells [.int .u8 0, .int .u8 0, .int .i64 0, .str [], .nilSlice, .nilSlice, .int .i64 0, .int .i64 0, .int .i64 0] 27)) := ⟨_, rfl⟩;rw [← hHa];have gr2 : Ha r2 = some (.cells [.int .u8 0, .int .u8 0, .int .i64 0, .str [], .nilSlice, .nilSlice, .int .i64 0, .int .i64 0, .int .i64 0] 27) := by rw [hHa]; exact upd_same _ _ _
 have n2 : r ≠ r2 := none_ne hr2 hr;have q2 := n2.symm;have ha : RAt r l k H Ha := by rw [hHa]; exact (RAt.refl hr).new hr2 _
 simp (disch := omega) only [go_sem];have hpk := hs _ k ha.get hk;have had := hA.simple k hk;dsimp only at hpk;cases hpr : p.simple k with
 | bot => rw [hpr] at hn; exact absurd rfl hn
 | fail k3 =>
  rw [hpr] at hpk;refine (hpk (mp_ne (by simp))).mono ?_;rintro e H3 ⟨rfl, rfl⟩;simp (disch := omega) only [go_sem];exact RAt.finP (ha.set k3) ⟨rfl, rfl⟩
 | ok x k3 =>
  rw [hpr] at hpk hn had;refine (hpk (mp_ne (by simp))).mono ?_;rintro e H3 ⟨rfl, hH3⟩;have ha3 : RAt r l k3 H H3 := by rw [hH3]; exact ha.set k3
  dsimp only [Res.then, Adv] at hn had ⊢
  have g3 : H3 r2 = some (.cells [.int .u8 0, .int .u8 0, .int .i64 0, .str [], .nilSlice, .nilSlice, .int .i64 0, .int .i64 0, .int .i64 0] 27) := by rw [hH3]; exact keepU gr2 q2
  simp (disch := omega) only [go_sem, dE];have hn2 : p.rest x k3 ≠ .bot := fun h => hn (by rw [h]; rfl);have hch := hr1 x H3 k3 ha3.get (by omega) (mp_ne hn2);dsimp only at hch;cases hpc : p.rest x k3 with
  | bot => exact absurd hpc hn2
  | fail k4 =>
   rw [hpc] at hch;refine hch.mono ?_;rintro e H4 ⟨rfl, rfl⟩;simp (disch := omega) only [go_sem];exact RAt.finP (ha3.set k4) ⟨rfl, rfl⟩
  | ok y k4 =>
   rw [hpc] at hch;refine hch.mono ?_;rintro e H4 ⟨rfl, hH4⟩;have ha4 : RAt r l k4 H H4 := by rw [hH4]; exact ha3.set k4
   have g4 : H4 r2 = some (.cells [.int .u8 0, .int .u8 0, .int .i64 0, .str [], .nilSlice, .nilSlice, .int .i64 0, .int .i64 0, .int .i64 0] 27) := by rw [hH4]; exact keepU g3 q2
   have hly := dEx_len y;have hoy := dEx_one y;simp (disch := omega) only [go_sem, dE, g4, hly, hoy];exact RAt.fin (ha4.own hr2 q2 _) ⟨rfl, rfl⟩
theorem opF_again {os : List Nat} (h : (opF l 0 k os).1 ≠ 0) : opF l (opF l 0 k os).1 k os = opF l 0 k os := by
 have key : ∀ {os : List Nat} {w : Nat}, (opF l 0 k os).1 = w → w ≠ 0 → opF l w k os = opF l 0 k os := by
  intro os w hw h
  induction os with
  | nil => rfl
  | cons o m ih =>
   simp only [opF] at hw ⊢
   by_cases hi : isW l k (wordsN o) = true
   ·simp only [hi, if_true, ne_eq, not_true_eq_false, false_and, if_false] at hw ⊢
    rw [if_neg (by rintro ⟨_, h2⟩; exact h2 hw)]
   ·simp only [hi, if_false, Bool.false_eq_true] at hw ⊢
    exact ih hw
 exact key rfl h
set_option maxHeartbeats 4000000 in
theorem rest_step (hG : GX G) (hl : l.length ≤ 800000) (n : Nat) (hs : ∀ m ≤ n, RdC Tryz.prog G l 65 r fun k => ((P l m).simple k).mp dE) (hrl : ∀ m ≤ n, ∀ x, RdC1 Tryz.prog G l 64 r (.agg (dEx x)) fun k => ((P l m).relation x k).mp dE) (x : Ex) : RdC1 Tryz.prog G l 118 r (.agg (dEx x)) fun k => ((P l (n + 1)).rest x k).mp dE := by
 intro H k hr hk hn;have e : (P l (n + 1)).rest x k = ((P l n).relation x k).then fun x k => (P l n).restL (opF l 0 k opsLog).1 x k := rfl
 dsimp only at hn ⊢
 rw [e] at hn ⊢
 refine dcalls_intro Tryz.func118 Tryz.call118 rfl (by kernel_rfl) ?_;simp (disch := omega) only [go_sem, DVal.cells];intro r3 hr3; dsimp only at hr3;obtain ⟨Hb, hHb⟩ : ∃ K, K = upd H r3 (some (.cells (dEx x) 27)) := ⟨_, rfl⟩;rw [← hHb];have gr3 : Hb r3 = some (.cells (dEx x) 27) := by rw [hHb]; exact upd_same _ _ _
 have n3 : r ≠ r3 := none_ne hr3 hr;have q3 := n3.symm;simp (disch := omega) only [go_sem, DVal.cells];intro r4 hr4; dsimp only at hr4;obtain ⟨Ha, hHa⟩ : ∃ K, K = upd Hb r4 (some (.cells [.int .u8 0, .int .u8 0, .int .i64 0, .str [], .nilSlice, .nilSlice, .int .i64 0, .int .i64 0, .int .i64 0] 27)) := ⟨_, rfl⟩;rw [← hHa];have gr4 : Ha r4 = some (.cells [.int .u8 0, .int .u8 0, .int .i64 0, .str [], .nilSlice, .nilSlice, .int .i64 0, .int .i64 0, .int .i64 0] 27) := by rw [hHa]; exact upd_same _ _ _
 have hab : RAt r l k H Hb := by rw [hHb]; exact (RAt.refl hr).new hr3 _
 have n4 : r ≠ r4 := none_ne hr4 hab.get;have q4 := n4.symm;have m3 : r3 ≠ r4 := none_ne hr4 gr3;have m4 := m3.symm;have h04 : H r4 = none := hab.lo hr4;have ha : RAt r l k H Ha := by rw [hHa]; exact hab.new hr4 _
 have g3 : Ha r3 = some (.cells (dEx x) 27) := by rw [hHa]; exact keepU gr3 m3
 have hlx := dEx_len x;simp (disch := omega) only [go_sem, g3];have hpk := hrl n (Nat.le_refl _) x _ k ha.get hk;have had := (P_adv (l := l) n).relation x k hk;dsimp only at hpk;cases hpr : (P l n).relation x k with
 | bot => rw [hpr] at hn; exact absurd rfl hn
 | fail k3 =>
  rw [hpr] at hpk;refine (hpk (mp_ne (by simp))).mono ?_;rintro e H3 ⟨rfl, rfl⟩;simp (disch := omega) only [go_sem];exact RAt.finP (ha.set k3) ⟨rfl, rfl⟩
 | ok y0 k3 =>
  rw [hpr] at hpk hn had;refine (hpk (mp_ne (by simp))).mono ?_;rintro e H3 ⟨rfl, hH3⟩;have ha3 : RAt r l k3 H H3 := by rw [hH3]; exact ha.set k3
  dsimp only [Res.then, Adv] at hn had ⊢
  have g33 : H3 r3 = some (.cells (dEx x) 27) := by rw [hH3]; exact keepU g3 q3
  have g34 : H3 r4 = some (.cells [.int .u8 0, .int .u8 0, .int .i64 0, .str [], .nilSlice, .nilSlice, .int .i64 0, .int .i64 0, .int .i64 0] 27) := by rw [hH3]; exact keepU gr4 q4
  have hly0 := dEx_len y0;have hoy0 := dEx_one y0;have hdr : (dEx x).drop 9 = [] := List.drop_eq_nil_of_le (by omega);simp (disch := omega) only [go_sem, dE, g33, hly0, hoy0, hlx, hdr];obtain ⟨Hc, hHc⟩ : ∃ K, K = upd H3 r3 (some (.cells (dEx y0) 27)) := ⟨_, rfl⟩;rw [← hHc];have hac : RAt r l k3 H Hc := by rw [hHc]; exact ha3.own hr3 q3 _
  have gc3 : Hc r3 = some (.cells (dEx y0) 27) := by rw [hHc]; exact upd_same _ _ _
  have gc4 : Hc r4 = some (.cells [.int .u8 0, .int .u8 0, .int .i64 0, .str [], .nilSlice, .nilSlice, .int .i64 0, .int .i64 0, .int .i64 0] 27) := by rw [hHc]; exact keepU g34 m4
  refine (operLog hG _ 0 hac.get hl had.2).mono ?_;rintro _ H5 ⟨rfl, hH5⟩;obtain ⟨o, ho⟩ : ∃ o, o = (opF l 0 k3 opsLog).1 := ⟨_, rfl⟩;obtain ⟨q, hq⟩ : ∃ q : Nat → Nat × Nat, ∀ k, q k = if o = 0 then (0, k) else opF l o k opsLog := ⟨_, fun _ => rfl⟩
  have hqa : ∀ k, k ≤ l.length → ((q k).1 = 0 → (q k).2 = k) ∧ ((q k).1 ≠ 0 → k + 1 ≤ (q k).2) ∧ (q k).2 ≤ l.length := by
   intro k hk;rw [hq];by_cases c : o = 0
   ·rw [if_pos c]; exact ⟨fun _ => rfl, fun h => absurd rfl h, hk⟩
   ·rw [if_neg c];have := opF_adv (want := o) (os := opsLog) (k := k) (l := l) ops_ok.1 hk;exact ⟨this.1, this.2.1, this.2.2.1⟩
  have hL : ∀ m x k, (P l (m + 1)).restL o x k = if (q k).1 = 0 then .ok x k else ((P l m).simple (q k).2).then fun y k => ((P l m).relation y k).then fun y k => (P l m).restL o (both o x y) k := by
   intro m x k;have : (P l (m + 1)).restL o x k = if o = 0 then .ok x k else if (opF l o k opsLog).1 = 0 then .ok x k else ((P l m).simple (opF l o k opsLog).2).then fun y k => ((P l m).relation y k).then fun y k => (P l m).restL o (both o x y) k := rfl
   rw [this, hq];by_cases c : o = 0
   ·rw [if_pos c, if_pos c, if_pos rfl]
   ·rw [if_neg c, if_neg c]
  have hq3 : (opF l 0 k3 opsLog) = (o, (q k3).2) ∧ (q k3).1 = o := by
   rw [hq];by_cases c : o = 0
   ·have h0 := opF_adv (want := 0) (os := opsLog) (k := k3) (l := l) ops_ok.1 had.2;rw [if_pos c];exact ⟨Prod.ext ho.symm (h0.1 (ho ▸ c)), c.symm⟩
   ·have h0 := opF_again (l := l) (k := k3) (os := opsLog) (ho ▸ c);rw [← ho] at h0;rw [if_neg c, h0];exact ⟨Prod.ext ho.symm rfl, ho.symm⟩
  rw [hq3.1] at hn ⊢
  rw [hq3.1] at hH5;dsimp only at hn hH5 ⊢
  have hn2 : (P l n).restL o y0 k3 ≠ .bot := fun h => hn (by rw [h]; rfl);obtain ⟨n', rfl⟩ : ∃ n', n = n' + 1 := by
   cases n with
   | zero => exact absurd rfl hn2
   | succ n' => exact ⟨n', rfl⟩
  have ha5 : RAt r l (q k3).2 H H5 := by rw [hH5]; exact hac.set _
  have g53 : H5 r3 = some (.cells (dEx y0) 27) := by rw [hH5]; exact keepU gc3 q3
  have g54 : H5 r4 = some (.cells [.int .u8 0, .int .u8 0, .int .i64 0, .str [], .nilSlice, .nilSlice, .int .i64 0, .int .i64 0, .int .i64 0] 27) := by rw [hH5]; exact keepU gc4 q4
  simp (disch := omega) only [go_sem];obtain ⟨I, hI⟩ : ∃ I : Nat × Ex × Nat → (Nat → DVal) → DHeap → Prop, ∀ s env heap, I s env heap ↔ (env 0 = .optr r 0 ∧ env 3 = .optr r3 0 ∧ env 4 = .optr r4 0 ∧ env 5 = .int .u8 o ∧ env 6 = .int .u8 (q s.2.2).1 ∧ s.2.2 ≤ l.length ∧ s.1 ≤ n' ∧ (P l (s.1 + 1)).restL o s.2.1 s.2.2 = (P l (n' + 1)).restL o y0 k3 ∧ RAt r l (q s.2.2).2 H heap ∧ heap r3 = some (.cells (dEx s.2.1) 27) ∧ heap r4 = some (.cells [.int .u8 0, .int .u8 0, .int .i64 0, .str [], .nilSlice, .nilSlice, .int .i64 0, .int .i64 0, .int .i64 0] 27)) := ⟨_, fun _ _ _ => Iff.rfl⟩;refine DLoop.run I (fun s => s.1) (n', y0, k3) ((hI _ _ _).2 ?_) ?_
  ·simp (disch := omega) only [go_sem, hq3.2];(repeat' apply And.intro) <;> (try first | rfl | assumption | omega)
   done
  ·rintro ⟨m, y, k1⟩ env heap hi';obtain ⟨e0, e3, e4, e5, e6, hk1, hm, hLm, hat, g6, gx⟩ := (hI _ _ _).1 hi';dsimp only at e6 hk1 hm hLm hat g6;rw [hL] at hLm;have hadv := hqa k1 hk1;obtain ⟨o1, ho1⟩ : ∃ o1, o1 = (q k1).1 := ⟨_, rfl⟩;obtain ⟨k2, hk2⟩ : ∃ k2, k2 = (q k1).2 := ⟨_, rfl⟩;rw [← ho1, ← hk2] at hLm hadv;rw [← ho1] at e6;rw [← hk2] at hat;by_cases c : o1 = 0
   ·have c' : (o1 : Int) = 0 := by omega
    rw [if_pos c] at hLm;have hk21 : k2 = k1 := hadv.1 c;rw [hk21] at hat;simp (disch := omega) only [go_sem, e0, e3, e4, e5, e6, c', g6, gx];rw [← hLm];exact RAt.fin (hat.own h04 q4 _) ⟨rfl, rfl⟩
   ·have c' : ¬ (o1 : Int) = 0 := by omega
    rw [if_neg c] at hLm;simp (disch := omega) only [go_sem, e0, e3, e4, e5, e6, c'];refine dwp_draws (by kernel_rfl) (.take 0 (.take 1 (.take 2 (.take 3 (.go 4 [1] (.go 5 [1] (.go 6 [] (.go 7 [] .done)))))))) (by kernel_rfl) ?_;simp (disch := omega) only [go_sem, e0, e3, e4, e5, e6, g6];have ho0 : o ≠ 0 := by
     intro h0;rw [hq, if_pos h0] at ho1;exact c ho1
    have hqo : ∀ k, q k = opF l o k opsLog := fun k => by rw [hq, if_neg ho0]
    have hs1 := hs m (by omega) heap k2 hat.get (by omega);have had1 := (P_adv (l := l) m).simple k2 (by omega);dsimp only at hs1;cases hp1 : (P l m).simple k2 with
    | bot => rw [hp1] at hLm; exact absurd hLm.symm hn2
    | fail k4 =>
     rw [hp1] at hs1 hLm;refine (hs1 (mp_ne (by simp))).mono ?_;rintro e H6 ⟨rfl, rfl⟩;simp (disch := omega) only [go_sem];rw [← hLm];exact RAt.finP (hat.set k4) ⟨rfl, rfl⟩
    | ok y1 k4 =>
     rw [hp1] at hs1 hLm had1;dsimp only [Res.then, Adv] at hLm had1;refine (hs1 (mp_ne (by simp))).mono ?_;rintro e H6 ⟨rfl, hH6⟩;have ha6 : RAt r l k4 H H6 := by rw [hH6]; exact hat.set k4
     have g63 : H6 r3 = some (.cells (dEx y) 27) := by rw [hH6]; exact keepU g6 q3
     have g64 : H6 r4 = some (.cells [.int .u8 0, .int .u8 0, .int .i64 0, .str [], .nilSlice, .nilSlice, .int .i64 0, .int .i64 0, .int .i64 0] 27) := by rw [hH6]; exact keepU gx q4
     simp (disch := omega) only [go_sem, e0, e3, e4, e5, e6, dE, g6, g63];have hs2 := hrl m (by omega) y1 H6 k4 ha6.get (by omega);have had2 := (P_adv (l := l) m).relation y1 k4 (by omega);dsimp only at hs2;cases hp2 : (P l m).relation y1 k4 with
     | bot => rw [hp2] at hLm; exact absurd hLm.symm hn2
     | fail k5 =>
      rw [hp2] at hs2 hLm;refine (hs2 (mp_ne (by simp))).mono ?_;rintro e H7 ⟨rfl, rfl⟩;simp (disch := omega) only [go_sem];rw [← hLm];exact RAt.finP (ha6.set k5) ⟨rfl, rfl⟩
     | ok y2 k5 =>
      rw [hp2] at hs2 hLm had2;dsimp only [Res.then, Adv] at hLm had2;refine (hs2 (mp_ne (by simp))).mono ?_;rintro e H7 ⟨rfl, hH7⟩;have ha7 : RAt r l k5 H H7 := by rw [hH7]; exact ha6.set k5
      have g73 : H7 r3 = some (.cells (dEx y) 27) := by rw [hH7]; exact keepU g63 q3
      have g74 : H7 r4 = some (.cells [.int .u8 0, .int .u8 0, .int .i64 0, .str [], .nilSlice, .nilSlice, .int .i64 0, .int .i64 0, .int .i64 0] 27) := by rw [hH7]; exact keepU g64 q4
      simp (disch := omega) only [go_sem, e0, e3, e4, e5, e6, dE, g63, g73];refine (both_spec G _ o y y2).mono ?_;rintro _ H8 ⟨rfl, rfl⟩;have hby := dEx_len (both o y y2);have hb1 := dEx_one (both o y y2);have hly := dEx_len y;have hdr2 : (dEx y).drop 9 = [] := List.drop_eq_nil_of_le (by omega);simp (disch := omega) only [go_sem, e0, e3, e4, e5, e6, g73, hby, hb1, hly, hdr2];have ha8 : RAt r l k5 H (upd H8 r3 (some (.cells (dEx (both o y y2)) 27))) := ha7.own hr3 q3 _;refine (operLog hG _ o ha8.get hl (by omega)).mono ?_;rintro _ H9 ⟨rfl, rfl⟩;rw [← hqo];obtain ⟨m', rfl⟩ : ∃ m', m = m' + 1 := by
       cases m with
       | zero => exact absurd hLm.symm hn2
       | succ m' => exact ⟨m', rfl⟩
      simp (disch := omega) only [go_sem, e0, e3, e4, e5];refine ⟨(m', both o y y2, k5), _, GhostS.refl _, (hI _ _ _).2 ?_, by dsimp only; omega⟩;simp (disch := omega) only [go_sem, e0, e3, e4, e5, q3, q4, m3, m4, g74, hLm];(repeat' apply And.intro) <;> (try first | rfl | assumption | omega);exact ha8.set _
end
end Go.Dl

-- Chapter 3: the package's reader: primaries, choices.
namespace Go.Dl
open Go Go.Proofs
set_option maxRecDepth 100000
section
variable {G : Nat → DVal} {H0 H : DHeap} {r k : Nat} {l : List Tok}
set_option maxHeartbeats 4000000 in
theorem primary_step (hG : GX G) (hl : l.length ≤ 800000) (p : PS) (hpa : RdC Tryz.prog G l 127 r fun k => (p.paren k).mp dE) (hna : RdC Tryz.prog G l 69 r fun k => (p.name k).mp dE) : RdC Tryz.prog G l 68 r fun k => ((stepP l p).primary k).mp dE := by
 intro H k hr hk hn;dsimp only [stepP] at hn ⊢
 obtain ⟨t, ht⟩ : ∃ t, t = tk l k := ⟨_, rfl⟩;rw [← ht] at hn ⊢
 have hw : IntKind.i64.wrap ((k : Int) + 1) = ((k + 1 : Nat) : Int) := by rw [IntKind.wrap_i64]; omega
 refine dcalls_intro Tryz.func68 Tryz.call68 rfl (by kernel_rfl) ?_;simp (disch := omega) only [go_sem];intro r2 hr2; dsimp only at hr2;obtain ⟨Ha, hHa⟩ : ∃ K, K = upd H r2 (some (.cells [.int .u8 0, .int .u8 0, .int .i64 0, .str [], .nilSlice, .nilSlice, .int .i64 0, .int .i64 0, .int .i64 0] 27)) := ⟨_, rfl⟩;rw [← hHa];have gr2 : Ha r2 = some (.cells [.int .u8 0, .int .u8 0, .int .i64 0, .str [], .nilSlice, .nilSlice, .int .i64 0, .int .i64 0, .int .i64 0] 27) := by rw [hHa]; exact upd_same _ _ _
 have n2 : r ≠ r2 := none_ne hr2 hr;have q2 := n2.symm;have ha : RAt r l k H Ha := by rw [hHa]; exact (RAt.refl hr).new hr2 _
 simp (disch := omega) only [go_sem];refine (token0_spec G _ ha.get (by omega) (by omega)).mono ?_;rintro _ H1 ⟨rfl, rfl⟩;rw [← ht];simp (disch := omega) only [go_sem];intro r3 hr3; dsimp only at hr3;have n23 : r2 ≠ r3 := none_ne hr3 gr2;have m23 := n23.symm;have n3 : r ≠ r3 := none_ne hr3 ha.get;have q3 := n3.symm;simp (disch := omega) only [go_sem, dTok];obtain ⟨Hc, hHc⟩ : ∃ K, K = upd H1 r3 (some (.cells [.int .u8 t.kind, dI t.line, .str t.text, dI t.n] 52)) := ⟨_, rfl⟩;rw [← hHc];have hac : RAt r l k H Hc := by rw [hHc]; exact ha.new hr3 _
 have gc2 : Hc r2 = some (.cells [.int .u8 0, .int .u8 0, .int .i64 0, .str [], .nilSlice, .nilSlice, .int .i64 0, .int .i64 0, .int .i64 0] 27) := by rw [hHc]; exact keepU gr2 n23
 have gc3 : Hc r3 = some (.cells [.int .u8 t.kind, dI t.line, .str t.text, dI t.n] 52) := by rw [hHc]; exact upd_same _ _ _
 have gcr := hac.get;unfold rdO at gcr;by_cases c : t.kind = 3
 ·rw [if_pos c] at hn ⊢
  simp (disch := omega) only [go_sem, gc3, c, gcr, hw, n3, n2, q3, q2, gc2, n23, m23];have hat := fun y => (hac.set (k + 1)).own hr2 q2 y;exact Seen.fin (hat _) (Seen.agg (Seen.ex (hat _) (.exs0 (hat _)) (.as0 (hat _)))) ⟨rfl, rfl⟩
 ·rw [if_neg c] at hn ⊢
  simp (disch := omega) only [go_sem, gc3, c, gc2];intro w1 hw1; dsimp only at hw1;simp (disch := omega) only [go_sem];refine (may1 hG _ w1 wNull hw1 hac.get (by omega) (by omega)).mono ?_;rintro _ H2 ⟨rfl, hH2⟩;by_cases c2 : isW l k [wNull] = true
  ·rw [if_pos c2] at hn hH2 ⊢
   have ha2 : RAt r l (k + 1) H H2 := by rw [hH2]; exact hac.set _
   have g22 : H2 r2 = some (.cells [.int .u8 0, .int .u8 0, .int .i64 0, .str [], .nilSlice, .nilSlice, .int .i64 0, .int .i64 0, .int .i64 0] 27) := by rw [hH2]; exact keepU gc2 q2
   have g23 : H2 r3 = some (.cells [.int .u8 t.kind, dI t.line, .str t.text, dI t.n] 52) := by rw [hH2]; exact keepU gc3 q3
   simp (disch := omega) only [go_sem, c2, g22, g23];have hat := fun y => ha2.own hr2 q2 y;exact Seen.fin (hat _) (Seen.agg (Seen.ex (hat _) (.exs0 (hat _)) (.as0 (hat _)))) ⟨rfl, rfl⟩
  ·have c2' : isW l k [wNull] = false := by simpa using c2
   rw [if_neg c2] at hn hH2 ⊢
   rw [upd_get hac.get] at hH2;subst hH2;simp (disch := omega) only [go_sem, c2'];intro w2 hw2; dsimp only at hw2;simp (disch := omega) only [go_sem];refine (is1 hG _ w2 wOpen hw2 hac.get (by omega) (by omega)).mono ?_;rintro _ H3 ⟨rfl, rfl⟩;by_cases c3 : isW l k [wOpen] = true
   ·rw [if_pos c3] at hn ⊢
    simp (disch := omega) only [go_sem, c3];have hpk := hpa _ k hac.get hk;dsimp only at hpk;cases hpr : p.paren k with
    | bot => rw [hpr] at hn; exact absurd rfl hn
    | fail k3 =>
     rw [hpr] at hpk;refine (hpk (mp_ne (by simp))).mono ?_;rintro e H4 ⟨rfl, rfl⟩;simp (disch := omega) only [go_sem];exact RAt.finP (hac.set k3) ⟨rfl, rfl⟩
    | ok y k3 =>
     rw [hpr] at hpk;refine (hpk (mp_ne (by simp))).mono ?_;rintro e H4 ⟨rfl, hH4⟩;have ha4 : RAt r l k3 H H4 := by rw [hH4]; exact hac.set k3
     have g4 : H4 r2 = some (.cells [.int .u8 0, .int .u8 0, .int .i64 0, .str [], .nilSlice, .nilSlice, .int .i64 0, .int .i64 0, .int .i64 0] 27) := by rw [hH4]; exact keepU gc2 q2
     have hly := dEx_len y;have hoy := dEx_one y;simp (disch := omega) only [go_sem, dE, g4, hly, hoy];exact RAt.fin (ha4.own hr2 q2 _) ⟨rfl, rfl⟩
   ·have c3' : isW l k [wOpen] = false := by simpa using c3
    rw [if_neg c3] at hn ⊢
    simp (disch := omega) only [go_sem, c3'];have hpk := hna _ k hac.get hk;dsimp only at hpk;cases hpr : p.name k with
    | bot => rw [hpr] at hn; exact absurd rfl hn
    | fail k3 =>
     rw [hpr] at hpk;refine (hpk (mp_ne (by simp))).mono ?_;rintro e H4 ⟨rfl, rfl⟩;simp (disch := omega) only [go_sem];exact RAt.finP (hac.set k3) ⟨rfl, rfl⟩
    | ok y k3 =>
     rw [hpr] at hpk;refine (hpk (mp_ne (by simp))).mono ?_;rintro e H4 ⟨rfl, hH4⟩;have ha4 : RAt r l k3 H H4 := by rw [hH4]; exact hac.set k3
     have g4 : H4 r2 = some (.cells [.int .u8 0, .int .u8 0, .int .i64 0, .str [], .nilSlice, .nilSlice, .int .i64 0, .int .i64 0, .int .i64 0] 27) := by rw [hH4]; exact keepU gc2 q2
     have hly := dEx_len y;have hoy := dEx_one y;simp (disch := omega) only [go_sem, dE, g4, hly, hoy];exact RAt.fin (ha4.own hr2 q2 _) ⟨rfl, rfl⟩
end
end Go.Dl

-- Chapter 3: the package's reader: choices.
namespace Go.Dl
open Go Go.Proofs
set_option maxRecDepth 100000
def dC (c : Ch) : DVal := .agg (dCh c)
def dA (a : As) : DVal := .agg (dAs a)
section
variable {G : Nat → DVal} {H0 H H' : DHeap} {r k : Nat} {l : List Tok}
theorem Seen.choice {kd : Int} {v : DVal} {m : List Ex} (hs : Sub H H') (h : Seen H' v H (dXs m)) : Seens H' [.int .u8 kd, v] H (dCh (.mk kd m)) := by
 rw [dCh_eq];exact .cons (.keep hs _) (.cons h .nil)
set_option maxHeartbeats 4000000 in
theorem choice_step (hG : GX G) (hl : l.length ≤ 800000) (p : PS) (hA : p.Adv l) (hs : RdC Tryz.prog G l 65 r fun k => (p.simple k).mp dE) (hr1 : ∀ x, RdC1 Tryz.prog G l 118 r (.agg (dEx x)) fun k => (p.rest x k).mp dE) : RdC Tryz.prog G l 161 r fun k => ((stepP l p).choice k).mp dC := by
 intro H k hr hk hn;dsimp only [stepP] at hn ⊢
 refine dcalls_intro Tryz.func161 Tryz.call161 rfl (by kernel_rfl) ?_;simp (disch := omega) only [go_sem];intro r2 hr2; dsimp only at hr2;obtain ⟨Ha, hHa⟩ : ∃ K, K = upd H r2 (some (.cells [.int .u8 0, .nilSlice] 71)) := ⟨_, rfl⟩;rw [← hHa];have gr2 : Ha r2 = some (.cells [.int .u8 0, .nilSlice] 71) := by rw [hHa]; exact upd_same _ _ _
 have n2 : r ≠ r2 := none_ne hr2 hr;have q2 := n2.symm;have ha : RAt r l k H Ha := by rw [hHa]; exact (RAt.refl hr).new hr2 _
 simp (disch := omega) only [go_sem];intro w1 hw1; dsimp only at hw1;simp (disch := omega) only [go_sem];refine (may1 hG _ w1 wOthers hw1 ha.get (by omega) (by omega)).mono ?_;rintro _ H2 ⟨rfl, hH2⟩;by_cases c : isW l k [wOthers] = true
 ·rw [if_pos c] at hn hH2 ⊢
  have ha2 : RAt r l (k + 1) H H2 := by rw [hH2]; exact ha.set _
  have g2 : H2 r2 = some (.cells [.int .u8 0, .nilSlice] 71) := by rw [hH2]; exact keepU gr2 q2
  simp (disch := omega) only [go_sem, c, g2];have hat := fun y => ha2.own hr2 q2 y;exact Seen.fin (hat _) (Seen.agg (Seen.choice (hat _) (.exs0 (hat _)))) ⟨rfl, rfl⟩
 ·have c' : isW l k [wOthers] = false := by simpa using c
  rw [if_neg c] at hn hH2 ⊢
  rw [upd_get ha.get] at hH2;subst hH2;simp (disch := omega) only [go_sem, c'];have hpk := hs _ k ha.get hk;have had := hA.simple k hk;dsimp only at hpk;cases hpr : p.simple k with
  | bot => rw [hpr] at hn; exact absurd rfl hn
  | fail k3 =>
   rw [hpr] at hpk;refine (hpk (mp_ne (by simp))).mono ?_;rintro e H3 ⟨rfl, rfl⟩;simp (disch := omega) only [go_sem];exact RAt.finP (ha.set k3) ⟨rfl, rfl⟩
  | ok x k3 =>
   rw [hpr] at hpk hn had;refine (hpk (mp_ne (by simp))).mono ?_;rintro e H3 ⟨rfl, hH3⟩;have ha3 : RAt r l k3 H H3 := by rw [hH3]; exact ha.set k3
   dsimp only [Res.then, Adv] at hn had ⊢
   have g3 : H3 r2 = some (.cells [.int .u8 0, .nilSlice] 71) := by rw [hH3]; exact keepU gr2 q2
   have hlx := dEx_len x;have hox := dEx_one x;simp (disch := omega) only [go_sem, dE];intro r3 hr3; dsimp only at hr3;have n23 : r2 ≠ r3 := none_ne hr3 g3;have m23 := n23.symm;have n3 : r ≠ r3 := none_ne hr3 ha3.get;have q3 := n3.symm;simp (disch := omega) only [go_sem, hlx, hox];obtain ⟨Hc, hHc⟩ : ∃ K, K = upd H3 r3 (some (.cells (dEx x) 27)) := ⟨_, rfl⟩;rw [← hHc];have hac : RAt r l k3 H Hc := by rw [hHc]; exact ha3.new hr3 _
   have gc2 : Hc r2 = some (.cells [.int .u8 0, .nilSlice] 71) := by rw [hHc]; exact keepU g3 n23
   have gc3 : Hc r3 = some (.cells (dEx x) 27) := by rw [hHc]; exact upd_same _ _ _
   intro w2 hw2; dsimp only at hw2;simp (disch := omega) only [go_sem];refine (may1 hG _ w2 wDots hw2 hac.get (by omega) (by omega)).mono ?_;rintro _ H4 ⟨rfl, hH4⟩;by_cases c2 : isW l k3 [wDots] = true
   ·rw [if_pos c2] at hn hH4 ⊢
    have ha4 : RAt r l (k3 + 1) H H4 := by rw [hH4]; exact hac.set _
    have g42 : H4 r2 = some (.cells [.int .u8 0, .nilSlice] 71) := by rw [hH4]; exact keepU gc2 q2
    have g43 : H4 r3 = some (.cells (dEx x) 27) := by rw [hH4]; exact keepU gc3 q3
    have hk4 := isW_lt c2 had.2;rw [List.length_singleton] at hk4;simp (disch := omega) only [go_sem, c2];refine dwp_draws (by kernel_rfl) (.take 0 (.take 1 (.go 2 [0] (.go 3 [] (.take 4 (.go 5 [] .done)))))) (by kernel_rfl) ?_;simp (disch := omega) only [go_sem, g43];have hp2 := hs _ (k3 + 1) ha4.get hk4;dsimp only at hp2;cases hpr2 : p.simple (k3 + 1) with
    | bot => rw [hpr2] at hn; exact absurd rfl hn
    | fail k5 =>
     rw [hpr2] at hp2;refine (hp2 (mp_ne (by simp))).mono ?_;rintro e H5 ⟨rfl, rfl⟩;simp (disch := omega) only [go_sem];exact RAt.finP (ha4.set k5) ⟨rfl, rfl⟩
    | ok y k5 =>
     rw [hpr2] at hp2;refine (hp2 (mp_ne (by simp))).mono ?_;rintro e H5 ⟨rfl, hH5⟩;have ha5 : RAt r l k5 H H5 := by rw [hH5]; exact ha4.set k5
     have g52 : H5 r2 = some (.cells [.int .u8 0, .nilSlice] 71) := by rw [hH5]; exact keepU g42 q2
     have g53 : H5 r3 = some (.cells (dEx x) 27) := by rw [hH5]; exact keepU g43 q3
     have hly := dEx_len y;dsimp only [Res.then];simp (disch := omega) only [go_sem, dE, g43, g53];rw [two_cells hlx hly];simp (disch := omega) only [go_sem];intro r7 hr7; dsimp only at hr7;have n27 : r2 ≠ r7 := none_ne hr7 g52;have m27 := n27.symm;simp (disch := omega) only [go_sem, g52, n27, m27];have hxy : [x, y].flatMap dEx = dEx x ++ dEx y := by simp
     have hat := fun z => (ha5.new hr7 (some (.cells (dEx x ++ dEx y) 27))).own hr2 q2 z;refine Seen.fin (hat _) (Seen.agg (Seen.choice (m := [x, y]) (hat _) (Seen.block (e := 27) (hat _) (Sub.lo ha5 hr7) ?_ ?_))) ⟨rfl, rfl⟩
     ·rw [hxy]; simp [upd, m27]
     ·rw [hxy, List.length_append, hlx, hly]
   ·have c2' : isW l k3 [wDots] = false := by simpa using c2
    rw [if_neg c2] at hn hH4 ⊢
    rw [upd_get hac.get] at hH4;subst hH4;simp (disch := omega) only [go_sem, c2', gc3];have hn2 : p.rest x k3 ≠ .bot := fun h => hn (by rw [h]; rfl);have hch := hr1 x _ k3 hac.get had.2 (mp_ne hn2);dsimp only at hch;cases hpc : p.rest x k3 with
    | bot => exact absurd hpc hn2
    | fail k4 =>
     rw [hpc] at hch;refine hch.mono ?_;rintro e H5 ⟨rfl, rfl⟩;simp (disch := omega) only [go_sem];exact RAt.finP (hac.set k4) ⟨rfl, rfl⟩
    | ok y k4 =>
     rw [hpc] at hch;refine hch.mono ?_;rintro e H5 ⟨rfl, hH5⟩;have ha5 : RAt r l k4 H H5 := by rw [hH5]; exact hac.set k4
     have g52 : H5 r2 = some (.cells [.int .u8 0, .nilSlice] 71) := by rw [hH5]; exact keepU gc2 q2
     have hly := dEx_len y;dsimp only [Res.then];simp (disch := omega) only [go_sem, dE];rw [one_cells hly];simp (disch := omega) only [go_sem];intro r7 hr7; dsimp only at hr7;have n27 : r2 ≠ r7 := none_ne hr7 g52;have m27 := n27.symm;simp (disch := omega) only [go_sem, g52, n27, m27];have hat := fun z => (ha5.new hr7 (some (.cells (dEx y) 27))).own hr2 q2 z;refine Seen.fin (hat _) (Seen.agg (Seen.choice (m := [y]) (hat _) (Seen.block (e := 27) (hat _) (Sub.lo ha5 hr7) ?_ ?_))) ⟨rfl, rfl⟩
     ·rw [List.flatMap_singleton]; simp [upd, m27]
     ·rw [List.flatMap_singleton, hly]
end
end Go.Dl

-- Chapter 3: the package's reader: several (printed by gen_uq.py).
namespace Go.Dl
open Go Go.Proofs
set_option maxRecDepth 100000
section
variable {G : Nat → DVal} {H0 H H' : DHeap} {r k : Nat} {l : List Tok}
theorem OwnJ.move {H H' : DHeap} {e : TypeId} {size n : Nat} {cs : List DVal} {v : DVal} {r : Nat} {o : DObj} (h : OwnJ (upd H r (some o)) e size n cs v H') (y : Option DObj) : OwnJ (upd H r y) e size n cs v (upd H' r y) := by
 have mv : ∀ {K : DHeap}, Sub (upd H r (some o)) K → Sub (upd H r y) (upd K r y) := fun s b ob hb => by
  simp only [upd] at hb ⊢
  by_cases c : b = r
  ·rw [if_pos c] at hb ⊢; exact hb
  ·rw [if_neg c] at hb ⊢
   exact s b ob (by simp only [upd]; rw [if_neg c]; exact hb)
 rcases h with ⟨a, b, c, d⟩ | ⟨q, h1, h2, h3, h4, h5⟩
 ·exact .inl ⟨a, b, c, mv d⟩
 ·have hq : q ≠ r := fun e => by rw [e, upd_same] at h1; cases h1
  exact .inr ⟨q, by rw [upd_ne _ _ _ _ hq] at h1 ⊢; exact h1, h2, h3, by rw [upd_ne _ _ _ _ hq]; exact h4, mv h5⟩
theorem cells1As {x : List DVal} (hx : x.length = 10) :
  (if 10 ≤ (repl 1 [DVal.nilSlice, DVal.int .u8 0, DVal.int .u8 0, DVal.int .i64 0, DVal.str [], DVal.nilSlice, DVal.nilSlice, DVal.int .i64 0, DVal.int .i64 0, DVal.int .i64 0]).length then some (x ++ List.drop 10 (repl 1 [DVal.nilSlice, DVal.int .u8 0, DVal.int .u8 0, DVal.int .i64 0, DVal.str [], DVal.nilSlice, DVal.nilSlice, DVal.int .i64 0, DVal.int .i64 0, DVal.int .i64 0])) else none) = some x := by
 have e : ∀ u : List DVal, repl 1 u = u := fun u => by simp [repl]
 rw [e, if_pos (by simp), List.drop_eq_nil_of_le (by simp), List.append_nil]
def OwnAs (H : DHeap) (l : List As) (v : DVal) (H' : DHeap) : Prop := OwnJ H 47 10 l.length (l.flatMap dAs) v H'
set_option maxHeartbeats 4000000 in
theorem severalAs (hG : GX G) (hl : l.length ≤ 800000) (g : FuncId) (T : Nat → Nat → Res As) (L : Nat → List As → Nat → Res (List As)) (sep : List UInt8)
  (hL0 : ∀ x k, L 0 x k = .bot) (hL : ∀ m x k, L (m + 1) x k = if isW l k [sep] then (T m (k + 1)).then fun a k => L m (x ++ [a]) k else .ok x k)
  (hT : ∀ m k, k ≤ l.length → Adv l (k + 1) (T m k)) (n : Nat) (hg : ∀ m ≤ n, RdC Tryz.prog G l g r fun k => (T m k).mp dA) (H : DHeap) (k : Nat) (hr : H r = some (rdO l k)) (hk : k ≤ l.length) (hn : ((T n k).then fun a k => L n [a] k) ≠ .bot) :
  DCalls Tryz.prog G 156 [.optr r 0, .str sep, .func (.func g) [.optr r 0] []] H (RdR r l H (((T n k).then fun a k => L n [a] k).mp dAl)) := by
 refine dcalls_intro Tryz.func156 Tryz.call156 rfl (by kernel_rfl) ?_;simp (disch := omega) only [go_sem];have hpk := hg n (Nat.le_refl _) _ k hr hk;have had := hT n k hk;dsimp only at hpk;cases hpr : T n k with
 | bot => rw [hpr] at hn; exact absurd rfl hn
 | fail k3 =>
  rw [hpr] at hpk;refine (hpk (mp_ne (by simp))).mono ?_;rintro e H3 ⟨rfl, rfl⟩;simp (disch := omega) only [go_sem];exact DFinP.refl ⟨rfl, rfl⟩
 | ok a0 k3 =>
  rw [hpr] at hpk hn had;refine (hpk (mp_ne (by simp))).mono ?_;rintro e H3 ⟨rfl, hH3⟩;dsimp only [Res.then, Adv] at hn had ⊢
  have hla := dAs_len a0;simp (disch := omega) only [go_sem, dA];rw [cells1As hla];simp (disch := omega) only [go_sem];intro r7 hr7; dsimp only at hr7;obtain ⟨n', rfl⟩ : ∃ n', n = n' + 1 := by
   cases n with
   | zero => exact absurd (hL0 _ _) hn
   | succ n' => exact ⟨n', rfl⟩
  have hv0 : OwnAs (upd H r (some (rdO l k3))) [a0] (.oslice 10 r7 0 1 1) (upd H3 r7 (some (.cells (dAs a0) 47))) :=
   .inr ⟨r7, by rw [← hH3]; exact hr7, by rw [List.flatMap_singleton, hla]; rfl, rfl, by rw [List.flatMap_singleton]; exact upd_same _ _ _, by rw [hH3] at hr7 ⊢; exact (Sub.refl _).new hr7 _⟩
  simp (disch := omega) only [go_sem];obtain ⟨I, hI⟩ : ∃ I : Nat × List As × Nat → (Nat → DVal) → DHeap → Prop, ∀ s env heap, I s env heap ↔ (env 0 = .optr r 0 ∧ env 1 = .str sep ∧ env 2 = .func (.func g) [.optr r 0] [] ∧ s.2.2 ≤ l.length ∧ s.2.1.length ≤ s.2.2 ∧ s.1 ≤ n' ∧ L (s.1 + 1) s.2.1 s.2.2 = L (n' + 1) [a0] k3 ∧ OwnAs (upd H r (some (rdO l s.2.2))) s.2.1 (env 7) heap) := ⟨_, fun _ _ _ => Iff.rfl⟩;refine DLoop.run I (fun s => s.1) (n', [a0], k3) ((hI _ _ _).2 ?_) ?_
  ·simp (disch := omega) only [go_sem];(repeat' apply And.intro) <;> (try first | rfl | assumption | omega)
  ·rintro ⟨m, xs, k1⟩ env heap hi';obtain ⟨e0, e1, e2, hk1, hlen, hm, hLm, hv⟩ := (hI _ _ _).1 hi';dsimp only at hk1 hlen hm hLm hv;rw [hL] at hLm;obtain ⟨v, e7⟩ : ∃ v, env 7 = v := ⟨_, rfl⟩;rw [e7] at hv;have gr : heap r = some (rdO l k1) := OwnJ.keep hv (upd_same _ _ _);simp (disch := omega) only [go_sem, e0, e1, e2, e7];intro w1 hw1; dsimp only at hw1;simp (disch := omega) only [go_sem, e0, e1, e2, e7];refine (may1 hG _ w1 sep hw1 gr (by omega) (by omega)).mono ?_;rintro _ H4 ⟨rfl, hH4⟩;by_cases c : isW l k1 [sep] = true
   ·rw [if_pos c] at hLm hH4;have hk4 := isW_lt c hk1;rw [List.length_singleton] at hk4;have hv4 : OwnAs (upd H r (some (rdO l (k1 + 1)))) xs v H4 := by rw [hH4]; exact OwnJ.move hv _
    have gr4 : H4 r = some (rdO l (k1 + 1)) := OwnJ.keep hv4 (upd_same _ _ _);simp (disch := omega) only [go_sem, e0, e1, e2, e7, c];have hp2 := hg m (by omega) _ (k1 + 1) gr4 hk4;have had2 := hT m (k1 + 1) hk4;dsimp only at hp2;cases hpr2 : T m (k1 + 1) with
    | bot => rw [hpr2] at hLm; exact absurd hLm.symm hn
    | fail k5 =>
     rw [hpr2] at hp2 hLm;refine (hp2 (mp_ne (by simp))).mono ?_;rintro e H5 ⟨rfl, hH5⟩;have hv5 : OwnAs (upd H r (some (rdO l k5))) xs v H5 := by rw [hH5]; exact OwnJ.move hv4 _
     simp (disch := omega) only [go_sem];rw [← hLm];exact DFinP.sub (OwnJ.sub hv5) ⟨rfl, rfl⟩
    | ok a k5 =>
     rw [hpr2] at hp2 hLm had2;dsimp only [Res.then, Adv] at hLm had2;refine (hp2 (mp_ne (by simp))).mono ?_;rintro e H5 ⟨rfl, hH5⟩;have hv5 : OwnAs (upd H r (some (rdO l k5))) xs v H5 := by rw [hH5]; exact OwnJ.move hv4 _
     have hla2 := dAs_len a;simp (disch := omega) only [go_sem, e0, e1, e2, e7, dA];rw [cells1As hla2];simp (disch := omega) only [go_sem, e0, e1, e2, e7];intro r8 hr8; dsimp only at hr8;simp (disch := omega) only [go_sem, e0, e1, e2, e7];refine OwnJ.append (m := 1) (OwnJ.new hv5 hr8 _) (by rw [hla2]) (by omega) fun v2 H6 hv2 => ?_;simp (disch := omega) only [go_sem, e0, e1, e2];obtain ⟨m', rfl⟩ : ∃ m', m = m' + 1 := by
      cases m with
      | zero => rw [hL0] at hLm; exact absurd hLm.symm hn
      | succ m' => exact ⟨m', rfl⟩
     have hlen2 : (xs ++ [a]).length ≤ k5 := by rw [List.length_append, List.length_singleton]; omega
     have hv3 : OwnAs (upd H r (some (rdO l k5))) (xs ++ [a]) v2 H6 := by
      unfold OwnAs;rw [List.length_append, List.length_singleton, List.flatMap_append, List.flatMap_singleton];exact hv2
     refine ⟨(m', xs ++ [a], k5), _, GhostS.refl _, (hI _ _ _).2 ?_, by dsimp only; omega⟩;simp (disch := omega) only [go_sem, e0, e1, e2];(repeat' apply And.intro) <;> (try first | rfl | assumption | omega)
   ·have c' : isW l k1 [sep] = false := by simpa using c
    rw [if_neg c] at hLm hH4;rw [upd_get gr] at hH4;subst hH4;simp (disch := omega) only [go_sem, e0, e1, e2, e7, c'];rw [← hLm];exact OwnJ.fin hv ⟨rfl, rfl⟩
theorem cells1Ch {x : List DVal} (hx : x.length = 2) :
  (if 2 ≤ (repl 1 [DVal.int .u8 0, DVal.nilSlice]).length then some (x ++ List.drop 2 (repl 1 [DVal.int .u8 0, DVal.nilSlice])) else none) = some x := by
 have e : ∀ u : List DVal, repl 1 u = u := fun u => by simp [repl]
 rw [e, if_pos (by simp), List.drop_eq_nil_of_le (by simp), List.append_nil]
def OwnCh (H : DHeap) (l : List Ch) (v : DVal) (H' : DHeap) : Prop := OwnJ H 71 2 l.length (l.flatMap dCh) v H'
theorem args_spec (hG : GX G) (hl : l.length ≤ 800000) (n : Nat) (hg : ∀ m ≤ n, RdC Tryz.prog G l 157 r fun k => ((P l m).arg k).mp dA) : RdC Tryz.prog G l 102 r fun k => (((P l n).arg k).then fun a k => (P l n).argsL [a] k).mp dAl := by
 intro H k hr hk hn;refine dcalls_intro Tryz.func102 Tryz.call102 rfl (by kernel_rfl) ?_;simp (disch := omega) only [go_sem];have hs := severalAs hG hl 157 (fun m => (P l m).arg) (fun m => (P l m).argsL) wComma (fun _ _ => rfl) (fun _ _ _ => rfl) (fun m k hk => (P_adv m).arg k hk) n hg H k hr hk (fun h => hn (by dsimp only; rw [h]; rfl));refine hs.mono ?_;intro e H' h;dsimp only at hn ⊢
 cases hc : (((P l n).arg k).then fun a k => (P l n).argsL [a] k) with
 | bot => rw [hc] at h; exact h.elim
 | fail k3 =>
  rw [hc] at h;obtain ⟨rfl, rfl⟩ := h;simp (disch := omega) only [go_sem];exact DFinP.refl ⟨rfl, rfl⟩
 | ok x k3 =>
  rw [hc] at h;obtain ⟨rfl, rfl⟩ := h;simp (disch := omega) only [go_sem];exact DFin.refl ⟨rfl, rfl⟩
end
end Go.Dl

-- Chapter 3: the package's reader: arguments.
namespace Go.Dl
open Go Go.Proofs
set_option maxRecDepth 100000
section
variable {G : Nat → DVal} {H0 H H' : DHeap} {r k : Nat} {l : List Tok}
theorem is1o (hG : GX G) (H : DHeap) (q : Nat) (s : List UInt8) (hq : H q = some (.cells [.str s] 9)) (hr : H r = some (rdO l k)) (hrq : r ≠ q) (hl : l.length ≤ 1000000) (hk : k ≤ 900000) : DCalls Tryz.prog G 126 [.optr r 0, .oslice 1 q 0 1 1] H (DRet (.bool (isW l k [s])) (upd H q none)) := by
 refine DCalls.fzArgs q hq ?_;simp only [fzs, fz, if_neg hrq, if_pos];exact is_spec hG _ [s] (by rw [upd_ne _ _ _ _ hrq]; exact hr) hl hk (by simp)
theorem Seen.assoc {v : DVal} {c : List Ch} {e : Ex} (hs : Sub H H') (h : Seen H' v H (dCl c)) : Seens H' (v :: dEx e) H (dAs (.mk c e)) := by
 rw [dAs_eq];exact .cons h (.keep hs _)
set_option maxHeartbeats 4000000 in
theorem argument_step (hG : GX G) (hl : l.length ≤ 800000) (p : PS) (hpa : RdC Tryz.prog G l 62 r fun k => (p.expr k).mp dE) : RdC Tryz.prog G l 157 r fun k => ((stepP l p).arg k).mp dA := by
 intro H k hr hk hn;dsimp only [stepP] at hn ⊢
 obtain ⟨t, ht⟩ : ∃ t, t = tk l k := ⟨_, rfl⟩;rw [← ht] at hn ⊢
 have hw1 : IntKind.i64.wrap ((k : Int) + 1) = ((k + 1 : Nat) : Int) := by rw [IntKind.wrap_i64]; omega
 have hw2 : IntKind.i64.wrap ((k : Int) + 2) = ((k + 2 : Nat) : Int) := by rw [IntKind.wrap_i64]; omega
 refine dcalls_intro Tryz.func157 Tryz.call157 rfl (by kernel_rfl) ?_;simp (disch := omega) only [go_sem];intro r2 hr2; dsimp only at hr2;obtain ⟨Ha, hHa⟩ : ∃ K, K = upd H r2 (some (.cells [.nilSlice, .int .u8 0, .int .u8 0, .int .i64 0, .str [], .nilSlice, .nilSlice, .int .i64 0, .int .i64 0, .int .i64 0] 47)) := ⟨_, rfl⟩;rw [← hHa];have gr2 : Ha r2 = some (.cells [.nilSlice, .int .u8 0, .int .u8 0, .int .i64 0, .str [], .nilSlice, .nilSlice, .int .i64 0, .int .i64 0, .int .i64 0] 47) := by rw [hHa]; exact upd_same _ _ _
 have n2 : r ≠ r2 := none_ne hr2 hr;have q2 := n2.symm;have ha : RAt r l k H Ha := by rw [hHa]; exact (RAt.refl hr).new hr2 _
 simp (disch := omega) only [go_sem];refine (token0_spec G _ ha.get (by omega) (by omega)).mono ?_;rintro _ H1 ⟨rfl, rfl⟩;rw [← ht];simp (disch := omega) only [go_sem];intro r3 hr3; dsimp only at hr3;have n23 : r2 ≠ r3 := none_ne hr3 gr2;have m23 := n23.symm;have n3 : r ≠ r3 := none_ne hr3 ha.get;have q3 := n3.symm;simp (disch := omega) only [go_sem, dTok];obtain ⟨Hc, hHc⟩ : ∃ K, K = upd H1 r3 (some (.cells [.int .u8 t.kind, dI t.line, .str t.text, dI t.n] 52)) := ⟨_, rfl⟩;rw [← hHc];have hac : RAt r l k H Hc := by rw [hHc]; exact ha.new hr3 _
 have gc2 : Hc r2 = some (.cells [.nilSlice, .int .u8 0, .int .u8 0, .int .i64 0, .str [], .nilSlice, .nilSlice, .int .i64 0, .int .i64 0, .int .i64 0] 47) := by rw [hHc]; exact keepU gr2 n23
 have gc3 : Hc r3 = some (.cells [.int .u8 t.kind, dI t.line, .str t.text, dI t.n] 52) := by rw [hHc]; exact upd_same _ _ _
 have gcr := hac.get;unfold rdO at gcr;by_cases c : t.kind = 1
 ·refine dwp_draws (by kernel_rfl) (.take 0 (.take 1 (.take 2 (.take 3 (.take 4 (.take 5 (.take 6 (.take 7 (.take 8 (.take 9 (.take 10 (.take 11 (.take 12 (.take 13 (.alt (.go 15 [11, 7] (.go 14 [] (.go 16 [] (.take 17 .done)))) (.go 14 [] (.go 15 [11, 7] (.go 16 [] (.take 17 .done))))))))))))))))))) (by kernel_rfl) ?_;have hdc : (dToks l).cells = [dToks l] := rfl;simp (disch := omega) only [go_sem, gc3, c, gcr, hw1, hdc];have hk1 : k + 1 ≤ l.length := tk_lt (by rw [← ht, c]; decide);refine ⟨?_, ?_⟩
  ·intro w1 hw; dsimp only at hw;have nr1 : r ≠ w1 := none_ne hw hac.get;simp (disch := omega) only [go_sem, nr1];intro r20 h20; dsimp only at h20;obtain ⟨m1, m2, h20'⟩ := upd_eq_none.1 h20;have nr20 : r ≠ r20 := none_ne h20' hac.get;simp (disch := omega) only [go_sem, nr1, nr20, m1, m2];refine (is1o hG _ w1 wArrow (r := r20) (k := k + 1) (by rw [upd_ne _ _ _ _ m2]; exact upd_same _ _ _) (upd_same _ _ _) m1 (by omega) (by omega)).mono ?_;rintro _ H5 ⟨rfl, hH5⟩;have n52 : r2 ≠ w1 := none_ne hw gc2;have n53 : r3 ≠ w1 := none_ne hw gc3;have n62 : r2 ≠ r20 := none_ne h20' gc2;have n63 : r3 ≠ r20 := none_ne h20' gc3;have g52 : H5 r2 = some (.cells [.nilSlice, .int .u8 0, .int .u8 0, .int .i64 0, .str [], .nilSlice, .nilSlice, .int .i64 0, .int .i64 0, .int .i64 0] 47) := by rw [hH5, upd_ne _ _ _ _ n52]; exact keepU (keepU gc2 n52) n62
   have g53 : H5 r3 = some (.cells [.int .u8 t.kind, dI t.line, .str t.text, dI t.n] 52) := by rw [hH5, upd_ne _ _ _ _ n53]; exact keepU (keepU gc3 n53) n63
   have ha5 : RAt r l k H H5 := by rw [hH5]; exact ((hac.new hw (some (.cells [.str wArrow] 9))).new h20 (some (rdO l (k + 1)))).own (hac.lo hw) nr1.symm none
   have gr5 := ha5.get;unfold rdO at gr5;by_cases c2 : isW l (k + 1) [wArrow] = true
   ·rw [if_pos ⟨c, c2⟩] at hn;rw [if_pos c2];have hk2 := isW_lt c2 hk1;rw [List.length_singleton] at hk2;simp (disch := omega) only [go_sem, c2, gr5, hw2, q3, g53];obtain ⟨H6, hH6⟩ : ∃ H6, H6 = upd H5 r (some (rdO l (k + 2))) := ⟨_, rfl⟩;have hH6' := hH6;unfold rdO at hH6';rw [← hH6'];have ha6 : RAt r l (k + 2) H H6 := by rw [hH6]; exact ha5.set _
    have g62 : H6 r2 = some (.cells [.nilSlice, .int .u8 0, .int .u8 0, .int .i64 0, .str [], .nilSlice, .nilSlice, .int .i64 0, .int .i64 0, .int .i64 0] 47) := by rw [hH6]; exact keepU g52 q2
    have g63 : H6 r3 = some (.cells [.int .u8 t.kind, dI t.line, .str t.text, dI t.n] 52) := by rw [hH6]; exact keepU g53 q3
    intro r36 h36; dsimp only at h36;have p236 : r2 ≠ r36 := none_ne h36 g62;have z236 := p236.symm;have pr36 : r ≠ r36 := none_ne h36 ha6.get;simp (disch := omega) only [go_sem];intro r38 h38; dsimp only at h38;obtain ⟨a1, a2, h38'⟩ := upd_eq_none.1 h38;have p238 : r2 ≠ r38 := none_ne h38' g62;have z238 := p238.symm;have pr38 : r ≠ r38 := none_ne h38' ha6.get;simp (disch := omega) only [go_sem, p236, p238, g62];obtain ⟨H7, hH7⟩ : ∃ H7, H7 = upd (upd (upd H6 r36 (some (.cells [.int .u8 3, .int .u8 0, .int .i64 0, .str t.text, .nilSlice, .nilSlice, .int .i64 t.line, .int .i64 0, .int .i64 0] 27))) r38 (some (.cells [.int .u8 1, .oslice 9 r36 0 1 1] 71))) r2 (some (.cells [.oslice 2 r38 0 1 1, .int .u8 0, .int .u8 0, .int .i64 0, .str [], .nilSlice, .nilSlice, .int .i64 0, .int .i64 0, .int .i64 0] 47)) := ⟨_, rfl⟩;rw [show List.drop 9 (repl 1 [DVal.int .u8 0, DVal.int .u8 0, DVal.int .i64 0, DVal.str [], DVal.nilSlice, DVal.nilSlice, DVal.int .i64 0, DVal.int .i64 0, DVal.int .i64 0]) = [] from rfl, show List.drop 2 (repl 1 [DVal.int .u8 0, DVal.nilSlice]) = [] from rfl, ← hH7];have ha7 : RAt r l (k + 2) H H7 := by rw [hH7]; exact ((ha6.new h36 _).new h38 _).own hr2 q2 _
    have g736 : H7 r36 = some (.cells [.int .u8 3, .int .u8 0, .int .i64 0, .str t.text, .nilSlice, .nilSlice, .int .i64 t.line, .int .i64 0, .int .i64 0] 27) := by rw [hH7]; simp [upd, z236, a1, a2]
    have g738 : H7 r38 = some (.cells [.int .u8 1, .oslice 9 r36 0 1 1] 71) := by rw [hH7]; simp [upd, z238]
    have g72 : H7 r2 = some (.cells [.oslice 2 r38 0 1 1, .int .u8 0, .int .u8 0, .int .i64 0, .str [], .nilSlice, .nilSlice, .int .i64 0, .int .i64 0, .int .i64 0] 47) := by rw [hH7]; exact upd_same _ _ _
    have hpk := hpa _ (k + 2) ha7.get (by omega);dsimp only at hpk;cases hpr : p.expr (k + 2) with
    | bot => rw [hpr] at hn; exact absurd rfl hn
    | fail k3 =>
     rw [hpr] at hpk;refine (hpk (mp_ne (by simp))).mono ?_;rintro e H4 ⟨rfl, rfl⟩;simp (disch := omega) only [go_sem];exact RAt.finP (ha7.set k3) ⟨rfl, rfl⟩
    | ok y k3 =>
     rw [hpr] at hpk;refine (hpk (mp_ne (by simp))).mono ?_;rintro e H4 ⟨rfl, hH4⟩;have ha4 : RAt r l k3 H H4 := by rw [hH4]; exact ha7.set k3
     have g42 := keepU (y := some (rdO l k3)) g72 q2;have g436 := keepU (y := some (rdO l k3)) g736 pr36.symm;have g438 := keepU (y := some (rdO l k3)) g738 pr38.symm;rw [← hH4] at g42 g436 g438;have hly := dEx_len y;have hoy := dEx_one y;dsimp only [Res.then];simp (disch := omega) only [go_sem, dE, g42, hly, hoy];have hat := fun z => ha4.own hr2 q2 z;refine Seen.fin (hat _) (Seen.agg (Seen.assoc (c := [.mk 1 [.mk 3 0 0 t.text [] [] t.line 0 0]]) (hat _) (Seen.cells (e := 71) (cs' := [Ch.mk 1 [.mk 3 0 0 t.text [] [] t.line 0 0]].flatMap dCh) (hat _) ?_ (keepU g438 z238) rfl ?_))) ⟨rfl, rfl⟩
     ·rw [upd_ne _ _ _ _ pr38.symm]; exact ha6.lo h38'
     ·rw [List.flatMap_singleton];refine Seen.choice (m := [.mk 3 0 0 t.text [] [] t.line 0 0]) (hat _) (Seen.cells (e := 27) (cs' := [Ex.mk 3 0 0 t.text [] [] t.line 0 0].flatMap dEx) (hat _) ?_ (keepU g436 z236) rfl ?_)
      ·rw [upd_ne _ _ _ _ pr36.symm]; exact ha6.lo h36
      ·rw [List.flatMap_singleton];exact Seen.ex (hat _) (.exs0 (hat _)) (.as0 (hat _))
   ·have c2' : isW l (k + 1) [wArrow] = false := by simpa using c2
    rw [if_neg (fun h => c2 h.2)] at hn;rw [if_neg c2];simp (disch := omega) only [go_sem, c2'];have hpk := hpa _ k ha5.get hk;dsimp only at hpk;cases hpr : p.expr k with
    | bot => rw [hpr] at hn; exact absurd rfl hn
    | fail k3 =>
     rw [hpr] at hpk;refine (hpk (mp_ne (by simp))).mono ?_;rintro e H4 ⟨rfl, rfl⟩;simp (disch := omega) only [go_sem];exact RAt.finP (ha5.set k3) ⟨rfl, rfl⟩
    | ok y k3 =>
     rw [hpr] at hpk;refine (hpk (mp_ne (by simp))).mono ?_;rintro e H4 ⟨rfl, hH4⟩;have ha4 : RAt r l k3 H H4 := by rw [hH4]; exact ha5.set k3
     have g4 : H4 r2 = some (.cells [.nilSlice, .int .u8 0, .int .u8 0, .int .i64 0, .str [], .nilSlice, .nilSlice, .int .i64 0, .int .i64 0, .int .i64 0] 47) := by rw [hH4]; exact keepU g52 q2
     have hly := dEx_len y;have hoy := dEx_one y;dsimp only [Res.then];simp (disch := omega) only [go_sem, dE, g4, hly, hoy];have hat := fun z => ha4.own hr2 q2 z;exact Seen.fin (hat _) (Seen.agg (Seen.assoc (c := []) (hat _) (.ch0 (hat _)))) ⟨rfl, rfl⟩
  ·intro r20 h20; dsimp only at h20;have nr20 : r ≠ r20 := none_ne h20 hac.get;simp (disch := omega) only [go_sem, nr20];intro w1 hwq; dsimp only at hwq;obtain ⟨m1, m2, hw⟩ := upd_eq_none.1 hwq;have nr1 : r ≠ w1 := none_ne hw hac.get;simp (disch := omega) only [go_sem, nr1, nr20, m1, m2];refine (is1o hG _ w1 wArrow (r := r20) (k := k + 1) (upd_same _ _ _) (by rw [upd_ne _ _ _ _ m2]; exact upd_same _ _ _) m2 (by omega) (by omega)).mono ?_;rintro _ H5 ⟨rfl, hH5⟩;have n52 : r2 ≠ w1 := none_ne hw gc2;have n53 : r3 ≠ w1 := none_ne hw gc3;have n62 : r2 ≠ r20 := none_ne h20 gc2;have n63 : r3 ≠ r20 := none_ne h20 gc3;have g52 : H5 r2 = some (.cells [.nilSlice, .int .u8 0, .int .u8 0, .int .i64 0, .str [], .nilSlice, .nilSlice, .int .i64 0, .int .i64 0, .int .i64 0] 47) := by rw [hH5, upd_ne _ _ _ _ n52]; exact keepU (keepU gc2 n62) n52
   have g53 : H5 r3 = some (.cells [.int .u8 t.kind, dI t.line, .str t.text, dI t.n] 52) := by rw [hH5, upd_ne _ _ _ _ n53]; exact keepU (keepU gc3 n63) n53
   have ha5 : RAt r l k H H5 := by rw [hH5]; exact ((hac.new h20 (some (rdO l (k + 1)))).new hwq (some (.cells [.str wArrow] 9))).own (hac.lo hw) nr1.symm none
   have gr5 := ha5.get;unfold rdO at gr5;by_cases c2 : isW l (k + 1) [wArrow] = true
   ·rw [if_pos ⟨c, c2⟩] at hn;rw [if_pos c2];have hk2 := isW_lt c2 hk1;rw [List.length_singleton] at hk2;simp (disch := omega) only [go_sem, c2, gr5, hw2, q3, g53];obtain ⟨H6, hH6⟩ : ∃ H6, H6 = upd H5 r (some (rdO l (k + 2))) := ⟨_, rfl⟩;have hH6' := hH6;unfold rdO at hH6';rw [← hH6'];have ha6 : RAt r l (k + 2) H H6 := by rw [hH6]; exact ha5.set _
    have g62 : H6 r2 = some (.cells [.nilSlice, .int .u8 0, .int .u8 0, .int .i64 0, .str [], .nilSlice, .nilSlice, .int .i64 0, .int .i64 0, .int .i64 0] 47) := by rw [hH6]; exact keepU g52 q2
    have g63 : H6 r3 = some (.cells [.int .u8 t.kind, dI t.line, .str t.text, dI t.n] 52) := by rw [hH6]; exact keepU g53 q3
    intro r36 h36; dsimp only at h36;have p236 : r2 ≠ r36 := none_ne h36 g62;have z236 := p236.symm;have pr36 : r ≠ r36 := none_ne h36 ha6.get;simp (disch := omega) only [go_sem];intro r38 h38; dsimp only at h38;obtain ⟨a1, a2, h38'⟩ := upd_eq_none.1 h38;have p238 : r2 ≠ r38 := none_ne h38' g62;have z238 := p238.symm;have pr38 : r ≠ r38 := none_ne h38' ha6.get;simp (disch := omega) only [go_sem, p236, p238, g62];obtain ⟨H7, hH7⟩ : ∃ H7, H7 = upd (upd (upd H6 r36 (some (.cells [.int .u8 3, .int .u8 0, .int .i64 0, .str t.text, .nilSlice, .nilSlice, .int .i64 t.line, .int .i64 0, .int .i64 0] 27))) r38 (some (.cells [.int .u8 1, .oslice 9 r36 0 1 1] 71))) r2 (some (.cells [.oslice 2 r38 0 1 1, .int .u8 0, .int .u8 0, .int .i64 0, .str [], .nilSlice, .nilSlice, .int .i64 0, .int .i64 0, .int .i64 0] 47)) := ⟨_, rfl⟩;rw [show List.drop 9 (repl 1 [DVal.int .u8 0, DVal.int .u8 0, DVal.int .i64 0, DVal.str [], DVal.nilSlice, DVal.nilSlice, DVal.int .i64 0, DVal.int .i64 0, DVal.int .i64 0]) = [] from rfl, show List.drop 2 (repl 1 [DVal.int .u8 0, DVal.nilSlice]) = [] from rfl, ← hH7];have ha7 : RAt r l (k + 2) H H7 := by rw [hH7]; exact ((ha6.new h36 _).new h38 _).own hr2 q2 _
    have g736 : H7 r36 = some (.cells [.int .u8 3, .int .u8 0, .int .i64 0, .str t.text, .nilSlice, .nilSlice, .int .i64 t.line, .int .i64 0, .int .i64 0] 27) := by rw [hH7]; simp [upd, z236, a1, a2]
    have g738 : H7 r38 = some (.cells [.int .u8 1, .oslice 9 r36 0 1 1] 71) := by rw [hH7]; simp [upd, z238]
    have g72 : H7 r2 = some (.cells [.oslice 2 r38 0 1 1, .int .u8 0, .int .u8 0, .int .i64 0, .str [], .nilSlice, .nilSlice, .int .i64 0, .int .i64 0, .int .i64 0] 47) := by rw [hH7]; exact upd_same _ _ _
    have hpk := hpa _ (k + 2) ha7.get (by omega);dsimp only at hpk;cases hpr : p.expr (k + 2) with
    | bot => rw [hpr] at hn; exact absurd rfl hn
    | fail k3 =>
     rw [hpr] at hpk;refine (hpk (mp_ne (by simp))).mono ?_;rintro e H4 ⟨rfl, rfl⟩;simp (disch := omega) only [go_sem];exact RAt.finP (ha7.set k3) ⟨rfl, rfl⟩
    | ok y k3 =>
     rw [hpr] at hpk;refine (hpk (mp_ne (by simp))).mono ?_;rintro e H4 ⟨rfl, hH4⟩;have ha4 : RAt r l k3 H H4 := by rw [hH4]; exact ha7.set k3
     have g42 := keepU (y := some (rdO l k3)) g72 q2;have g436 := keepU (y := some (rdO l k3)) g736 pr36.symm;have g438 := keepU (y := some (rdO l k3)) g738 pr38.symm;rw [← hH4] at g42 g436 g438;have hly := dEx_len y;have hoy := dEx_one y;dsimp only [Res.then];simp (disch := omega) only [go_sem, dE, g42, hly, hoy];have hat := fun z => ha4.own hr2 q2 z;refine Seen.fin (hat _) (Seen.agg (Seen.assoc (c := [.mk 1 [.mk 3 0 0 t.text [] [] t.line 0 0]]) (hat _) (Seen.cells (e := 71) (cs' := [Ch.mk 1 [.mk 3 0 0 t.text [] [] t.line 0 0]].flatMap dCh) (hat _) ?_ (keepU g438 z238) rfl ?_))) ⟨rfl, rfl⟩
     ·rw [upd_ne _ _ _ _ pr38.symm]; exact ha6.lo h38'
     ·rw [List.flatMap_singleton];refine Seen.choice (m := [.mk 3 0 0 t.text [] [] t.line 0 0]) (hat _) (Seen.cells (e := 27) (cs' := [Ex.mk 3 0 0 t.text [] [] t.line 0 0].flatMap dEx) (hat _) ?_ (keepU g436 z236) rfl ?_)
      ·rw [upd_ne _ _ _ _ pr36.symm]; exact ha6.lo h36
      ·rw [List.flatMap_singleton];exact Seen.ex (hat _) (.exs0 (hat _)) (.as0 (hat _))
   ·have c2' : isW l (k + 1) [wArrow] = false := by simpa using c2
    rw [if_neg (fun h => c2 h.2)] at hn;rw [if_neg c2];simp (disch := omega) only [go_sem, c2'];have hpk := hpa _ k ha5.get hk;dsimp only at hpk;cases hpr : p.expr k with
    | bot => rw [hpr] at hn; exact absurd rfl hn
    | fail k3 =>
     rw [hpr] at hpk;refine (hpk (mp_ne (by simp))).mono ?_;rintro e H4 ⟨rfl, rfl⟩;simp (disch := omega) only [go_sem];exact RAt.finP (ha5.set k3) ⟨rfl, rfl⟩
    | ok y k3 =>
     rw [hpr] at hpk;refine (hpk (mp_ne (by simp))).mono ?_;rintro e H4 ⟨rfl, hH4⟩;have ha4 : RAt r l k3 H H4 := by rw [hH4]; exact ha5.set k3
     have g4 : H4 r2 = some (.cells [.nilSlice, .int .u8 0, .int .u8 0, .int .i64 0, .str [], .nilSlice, .nilSlice, .int .i64 0, .int .i64 0, .int .i64 0] 47) := by rw [hH4]; exact keepU g52 q2
     have hly := dEx_len y;have hoy := dEx_one y;dsimp only [Res.then];simp (disch := omega) only [go_sem, dE, g4, hly, hoy];have hat := fun z => ha4.own hr2 q2 z;exact Seen.fin (hat _) (Seen.agg (Seen.assoc (c := []) (hat _) (.ch0 (hat _)))) ⟨rfl, rfl⟩
 ·rw [if_neg (fun h => c h.1)] at hn ⊢
  refine dwp_draws (by kernel_rfl) (.take 0 (.take 1 (.take 2 (.take 3 (.take 4 (.take 5 (.take 6 (.take 7 (.take 8 (.take 9 (.take 10 (.take 11 (.take 12 (.take 13 (.alt (.go 15 [11, 7] (.go 14 [] (.go 16 [] (.take 17 .done)))) (.go 14 [] (.go 15 [11, 7] (.go 16 [] (.take 17 .done))))))))))))))))))) (by kernel_rfl) ?_;simp (disch := omega) only [go_sem, gc3, c];refine ⟨⟨⟨keepAt_refl, keepAt_refl⟩, ?_⟩, ⟨keepAt_refl, keepAt_refl⟩, ?_⟩;all_goals
   have hpk := hpa _ k hac.get hk;dsimp only at hpk;cases hpr : p.expr k with
   | bot => rw [hpr] at hn; exact absurd rfl hn
   | fail k3 =>
    rw [hpr] at hpk;refine (hpk (mp_ne (by simp))).mono ?_;rintro e H4 ⟨rfl, rfl⟩;simp (disch := omega) only [go_sem];exact RAt.finP (hac.set k3) ⟨rfl, rfl⟩
   | ok y k3 =>
    rw [hpr] at hpk;refine (hpk (mp_ne (by simp))).mono ?_;rintro e H4 ⟨rfl, hH4⟩;have ha4 : RAt r l k3 H H4 := by rw [hH4]; exact hac.set k3
    have g4 : H4 r2 = some (.cells [.nilSlice, .int .u8 0, .int .u8 0, .int .i64 0, .str [], .nilSlice, .nilSlice, .int .i64 0, .int .i64 0, .int .i64 0] 47) := by rw [hH4]; exact keepU gc2 q2
    have hly := dEx_len y;have hoy := dEx_one y;dsimp only [Res.then];simp (disch := omega) only [go_sem, dE, g4, hly, hoy];have hat := fun z => ha4.own hr2 q2 z;exact Seen.fin (hat _) (Seen.agg (Seen.assoc (c := []) (hat _) (.ch0 (hat _)))) ⟨rfl, rfl⟩
end
end Go.Dl
