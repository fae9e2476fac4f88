/- The data level and the contracts of the functions that are reached (part 5). -/
import Derived.Test.YtfekogpdmjbdkaaGreatDoorPpd
set_option linter.unusedSimpArgs false
set_option linter.unusedVariables false
set_option linter.unusedSectionVars false
-- Chapter 3: slices of trees: the library's functions.
namespace Go.Dl
open Go Go.Proofs
set_option maxRecDepth 100000
mutual
def bigE : Ex → Nat
 | .mk _ _ _ _ l a _ _ _ => 1 + bigL l + bigAs a
def bigL : List Ex → Nat
 | [] => 0
 | x :: l => bigE x + bigL l
def bigA : As → Nat
 | .mk c e => bigCs c + bigE e
def bigAs : List As → Nat
 | [] => 0
 | x :: l => bigA x + bigAs l
def bigC : Ch → Nat
 | .mk _ l => 1 + bigL l
def bigCs : List Ch → Nat
 | [] => 0
 | x :: l => bigC x + bigCs l
end
theorem bigE_pos (e : Ex) : 1 ≤ bigE e := by cases e; rw [bigE]; omega
theorem bigA_pos (a : As) : 1 ≤ bigA a := by cases a; rw [bigA]; have := bigE_pos (‹Ex›); omega
theorem bigC_pos (c : Ch) : 1 ≤ bigC c := by cases c; rw [bigC]; omega
theorem bigE_eq (e : Ex) : bigE e = 1 + bigL e.l + bigAs e.a := by cases e; rw [bigE]; rfl
theorem bigA_eq (a : As) : bigA a = bigCs a.c + bigE a.e := by cases a; rw [bigA]; rfl
theorem bigC_eq (c : Ch) : bigC c = 1 + bigL c.l := by cases c; rw [bigC]; rfl
theorem bigL_mem : ∀ {l : List Ex} {x : Ex}, x ∈ l → bigE x ≤ bigL l
 | y :: l, x, h => by
  rw [bigL];rcases List.mem_cons.1 h with rfl | h
  ·omega
  ·have := bigL_mem h; omega
theorem bigAs_mem : ∀ {l : List As} {x : As}, x ∈ l → bigA x ≤ bigAs l
 | y :: l, x, h => by
  rw [bigAs];rcases List.mem_cons.1 h with rfl | h
  ·omega
  ·have := bigAs_mem h; omega
theorem bigCs_mem : ∀ {l : List Ch} {x : Ch}, x ∈ l → bigC x ≤ bigCs l
 | y :: l, x, h => by
  rw [bigCs];rcases List.mem_cons.1 h with rfl | h
  ·omega
  ·have := bigCs_mem h; omega
theorem bigL_len : ∀ l : List Ex, l.length ≤ bigL l
 | [] => Nat.le_refl _
 | x :: l => by rw [bigL, List.length_cons]; have := bigL_len l; have := bigE_pos x; omega
theorem bigAs_len : ∀ l : List As, l.length ≤ bigAs l
 | [] => Nat.le_refl _
 | x :: l => by rw [bigAs, List.length_cons]; have := bigAs_len l; have := bigA_pos x; omega
theorem bigCs_len : ∀ l : List Ch, l.length ≤ bigCs l
 | [] => Nat.le_refl _
 | x :: l => by rw [bigCs, List.length_cons]; have := bigCs_len l; have := bigC_pos x; omega
theorem big_l {e : Ex} : e.l.length ≤ bigE e := by have := bigL_len e.l; rw [bigE_eq]; omega
theorem big_a {e : Ex} : e.a.length ≤ bigE e := by have := bigAs_len e.a; rw [bigE_eq]; omega
theorem big_le {e x : Ex} (h : x ∈ e.l) : bigE x < bigE e := by have := bigL_mem h; rw [bigE_eq e]; omega
theorem big_ae {e : Ex} {a : As} (h : a ∈ e.a) : bigA a < bigE e := by have := bigAs_mem h; rw [bigE_eq e]; omega
theorem indexAs (G : Nat → DVal) (H : DHeap) (p : As → Bool) (l : List As) (g : FuncId) (xs ys : List DVal) (hl : l.length ≤ 1099511627776)
  (hp : ∀ x ∈ l, DCalls Tryz.prog G g (xs ++ [.agg (dAs x)] ++ ys) H (DRet (.bool (p x)) H)) :
  DCalls Tryz.prog G 193 [.vslice (l.flatMap dAs) l.length, .func (.func g) xs ys] H (DRet (dI (idxF p l)) H) := by
 refine dcalls_intro Tryz.func193 Tryz.call193 rfl (by kernel_rfl) ?_;simp (disch := omega) only [go_sem];refine DLoop.run (fun (i : Nat) env heap => heap = H ∧ env 0 = .vslice (l.flatMap dAs) l.length ∧ env 1 = .func (.func g) xs ys ∧ env 7 = dI l.length ∧ env 8 = dI i ∧ i ≤ l.length ∧ ∀ x ∈ l.take i, p x = false) (fun i => l.length - i) 0 ?_ ?_
 ·simp (disch := omega) only [go_sem];simp
 ·rintro i env heap ⟨rfl, h0, h1, h7, h8, hi, hn⟩;by_cases hlt : i < l.length
  ·have hget := flat_el dAs_len l i hlt;simp (disch := omega) only [go_sem, h0, h1, h7, h8, hget, flat_len dAs_len];have hc := hp l[i] (List.getElem_mem hlt)
   skip
   refine hc.mono ?_;rintro _ H ⟨rfl, rfl⟩;cases hx : p l[i] with
   | true =>
    simp (disch := omega) only [go_sem, h0, h1, h7, h8];exact DFin.refl ⟨by rw [idxF_at hlt hx hn], rfl⟩
   | false =>
    simp (disch := omega) only [go_sem, h0, h1, h7, h8];refine ⟨i + 1, _, GhostS.refl _, ?_, by omega⟩;simp (disch := omega) only [go_sem, h0, h1, h7, h8];(repeat' apply And.intro) <;> (try first | rfl | assumption | omega);exact take_next hlt hn hx
  ·simp (disch := omega) only [go_sem, h0, h1, h7, h8];have : i = l.length := by omega
   subst this;rw [List.take_length] at hn;exact DFin.refl ⟨by rw [idxF_no hn], rfl⟩
theorem containsAs (G : Nat → DVal) (H : DHeap) (p : As → Bool) (l : List As) (g : FuncId) (xs ys : List DVal) (hl : l.length ≤ 1099511627776)
  (hp : ∀ x ∈ l, DCalls Tryz.prog G g (xs ++ [.agg (dAs x)] ++ ys) H (DRet (.bool (p x)) H)) :
  DCalls Tryz.prog G 174 [.vslice (l.flatMap dAs) l.length, .func (.func g) xs ys] H (DRet (.bool (l.any p)) H) := by
 refine dcalls_intro Tryz.func174 Tryz.call174 rfl (by kernel_rfl) ?_;simp (disch := omega) only [go_sem];refine (indexAs G H p l g xs ys hl hp).mono ?_;rintro _ H ⟨rfl, rfl⟩;simp (disch := omega) only [go_sem];exact DFin.refl ⟨by rw [idxF_any], rfl⟩
theorem indexCh (G : Nat → DVal) (H : DHeap) (p : Ch → Bool) (l : List Ch) (g : FuncId) (xs ys : List DVal) (hl : l.length ≤ 1099511627776)
  (hp : ∀ x ∈ l, DCalls Tryz.prog G g (xs ++ [.agg (dCh x)] ++ ys) H (DRet (.bool (p x)) H)) :
  DCalls Tryz.prog G 132 [.vslice (l.flatMap dCh) l.length, .func (.func g) xs ys] H (DRet (dI (idxF p l)) H) := by
 refine dcalls_intro Tryz.func132 Tryz.call132 rfl (by kernel_rfl) ?_;simp (disch := omega) only [go_sem];refine DLoop.run (fun (i : Nat) env heap => heap = H ∧ env 0 = .vslice (l.flatMap dCh) l.length ∧ env 1 = .func (.func g) xs ys ∧ env 7 = dI l.length ∧ env 8 = dI i ∧ i ≤ l.length ∧ ∀ x ∈ l.take i, p x = false) (fun i => l.length - i) 0 ?_ ?_
 ·simp (disch := omega) only [go_sem];simp
 ·rintro i env heap ⟨rfl, h0, h1, h7, h8, hi, hn⟩;by_cases hlt : i < l.length
  ·have hget := flat_el dCh_len l i hlt;simp (disch := omega) only [go_sem, h0, h1, h7, h8, hget, flat_len dCh_len];have hc := hp l[i] (List.getElem_mem hlt)
   skip
   refine hc.mono ?_;rintro _ H ⟨rfl, rfl⟩;cases hx : p l[i] with
   | true =>
    simp (disch := omega) only [go_sem, h0, h1, h7, h8];exact DFin.refl ⟨by rw [idxF_at hlt hx hn], rfl⟩
   | false =>
    simp (disch := omega) only [go_sem, h0, h1, h7, h8];refine ⟨i + 1, _, GhostS.refl _, ?_, by omega⟩;simp (disch := omega) only [go_sem, h0, h1, h7, h8];(repeat' apply And.intro) <;> (try first | rfl | assumption | omega);exact take_next hlt hn hx
  ·simp (disch := omega) only [go_sem, h0, h1, h7, h8];have : i = l.length := by omega
   subst this;rw [List.take_length] at hn;exact DFin.refl ⟨by rw [idxF_no hn], rfl⟩
theorem containsCh (G : Nat → DVal) (H : DHeap) (p : Ch → Bool) (l : List Ch) (g : FuncId) (xs ys : List DVal) (hl : l.length ≤ 1099511627776)
  (hp : ∀ x ∈ l, DCalls Tryz.prog G g (xs ++ [.agg (dCh x)] ++ ys) H (DRet (.bool (p x)) H)) :
  DCalls Tryz.prog G 76 [.vslice (l.flatMap dCh) l.length, .func (.func g) xs ys] H (DRet (.bool (l.any p)) H) := by
 refine dcalls_intro Tryz.func76 Tryz.call76 rfl (by kernel_rfl) ?_;simp (disch := omega) only [go_sem];refine (indexCh G H p l g xs ys hl hp).mono ?_;rintro _ H ⟨rfl, rfl⟩;simp (disch := omega) only [go_sem];exact DFin.refl ⟨by rw [idxF_any], rfl⟩
end Go.Dl

-- Chapter 3: what is valid: arguments, choices, associations.
namespace Go.Dl
open Go Go.Proofs
set_option maxRecDepth 100000
theorem inOrd_iff : ∀ {l : List As}, inOrd l = true ↔ ∀ i (h : i + 1 < l.length), (l[i].c.isEmpty || !l[i + 1].c.isEmpty) = true
 | [] => ⟨fun _ i h => absurd h (by simp), fun _ => rfl⟩
 | [a] => ⟨fun _ i h => absurd h (by simp), fun _ => rfl⟩
 | a :: b :: r => by
  rw [inOrd, Bool.and_eq_true, inOrd_iff (l := b :: r)];constructor
  ·rintro ⟨h1, h2⟩ i h;cases i with
   | zero => exact h1
   | succ i => exact h2 i (by simpa using h)
  ·intro h;exact ⟨h 0 (by simp), fun i hi => h (i + 1) (by simpa using hi)⟩
theorem isEmpty_len {α : Type} (l : List α) : l.isEmpty = decide (l.length = 0) := by cases l <;> rfl
def cmpAs (a b : As) : Int := (if (a.c.length : Int) < 1 then (a.c.length : Int) else 1) - (if (b.c.length : Int) < 1 then (b.c.length : Int) else 1)
section
variable {G : Nat → DVal} {H : DHeap}
theorem inOrder1_spec (G : Nat → DVal) (H : DHeap) (a b : As) : DCalls Tryz.prog G 192 [.agg (dAs a), .agg (dAs b)] H (DRet (dI (cmpAs a b)) H) := by
 have hw : IntKind.i64.wrap ((if (a.c.length : Int) < 1 then (a.c.length : Int) else 1) - (if (b.c.length : Int) < 1 then (b.c.length : Int) else 1)) = cmpAs a b := by unfold cmpAs; rw [IntKind.wrap_i64]; split <;> split <;> omega
 refine dcalls_intro Tryz.func192 Tryz.call192 rfl (by kernel_rfl) ?_;simp (disch := omega) only [go_sem, DVal.cells];intro r2 hr2; dsimp only at hr2;simp (disch := omega) only [go_sem, DVal.cells];intro r3 hr3; dsimp only at hr3;obtain ⟨m2, m1, hr3'⟩ := upd_eq_none.1 hr3;simp (disch := omega) only [go_sem, m1, m2, hw];exact DFin.sub (show Sub H _ from (by repeat (first | exact Sub.refl _ | assumption | refine Sub.up ?_ (by assumption) _))) (DFin.refl ⟨rfl, rfl⟩)
theorem sortedAs_spec (G : Nat → DVal) (H : DHeap) (l : List As) (hl : l.length ≤ 1099511627776) :
  DCalls Tryz.prog G 191 [.vslice (l.flatMap dAs) l.length, .func (.func 192) [] []] H (DRet (.bool (inOrd l)) H) := by
 have hw : IntKind.i64.wrap ((l.length : Int) - 1) = (l.length : Int) - 1 := by rw [IntKind.wrap_i64]; omega
 refine dcalls_intro Tryz.func191 Tryz.call191 rfl (by kernel_rfl) ?_;simp (disch := omega) only [go_sem, hw];refine DLoop.run (fun (j : Nat) env heap => heap = H ∧ env 0 = .vslice (l.flatMap dAs) l.length ∧ env 1 = .func (.func 192) [] [] ∧ env 5 = dI ((j : Int) - 1) ∧ j ≤ l.length ∧ ∀ i (_ : j ≤ i + 1) (h : i + 1 < l.length), (l[i].c.isEmpty || !l[i + 1].c.isEmpty) = true) (fun j => j) l.length ?_ ?_
 ·simp (disch := omega) only [go_sem];(repeat' apply And.intro) <;> (try first | rfl | assumption | omega)
 ·rintro j env heap ⟨rfl, h0, h1, h5, hj, hn⟩;by_cases hlt : 1 < j
  ·obtain ⟨i, rfl⟩ : ∃ i, j = i + 2 := ⟨j - 2, by omega⟩;have e5 : ((i + 2 : Nat) : Int) - 1 = ((i + 1 : Nat) : Int) := by omega
   have hg1 := flat_el dAs_len l (i + 1) (by omega);have hg0 := flat_el dAs_len l i (by omega);rw [e5] at h5;have hw2 : IntKind.i64.wrap (((i + 1 : Nat) : Int) - 1) = (i : Int) := by rw [IntKind.wrap_i64]; omega
   simp (disch := omega) only [go_sem, h0, h1, h5];refine dwp_draws (by kernel_rfl) (.take 0 (.take 1 (.take 2 (.take 3 (.take 4 (.take 5 (.take 6 (.take 7 (.take 8 (.take 9 (.go 10 [] (.take 11 .done)))))))))))) (by kernel_rfl) ?_;simp (disch := omega) only [go_sem, h0, h1, h5, hg1, hg0, hw2, flat_len dAs_len];refine (inOrder1_spec G _ l[i + 1] l[i]).mono ?_;rintro _ H ⟨rfl, rfl⟩;by_cases c : cmpAs l[i + 1] l[i] < 0
   ·simp (disch := omega) only [go_sem, h0, h1, h5, c];refine DFin.refl ⟨?_, rfl⟩;have : inOrd l = false := by
     rw [← Bool.not_eq_true, inOrd_iff];intro h;have := h i (by omega);rw [isEmpty_len, isEmpty_len, Bool.or_eq_true, Bool.not_eq_true', decide_eq_true_eq, decide_eq_false_iff_not] at this;unfold cmpAs at c;split at c <;> split at c <;> omega
    rw [this]
   ·simp (disch := omega) only [go_sem, h0, h1, h5, hw2, c];refine ⟨i + 1, _, GhostS.refl _, ?_, by omega⟩;simp (disch := omega) only [go_sem, h0, h1, h5, hw2];(repeat' apply And.intro) <;> (try first | rfl | assumption | omega)
    ·rw [show ((i + 1 : Nat) : Int) - 1 = i by omega]
    intro i' hi1 hi2;by_cases e : i' = i
    ·subst e;rw [isEmpty_len, isEmpty_len, Bool.or_eq_true, Bool.not_eq_true', decide_eq_true_eq, decide_eq_false_iff_not];unfold cmpAs at c;split at c <;> split at c <;> omega
    ·exact hn i' (by omega) hi2
  ·have : ¬ (0 : Int) < (j : Int) - 1 := by omega
   simp (disch := omega) only [go_sem, h0, h1, h5, this];refine DFin.refl ⟨?_, rfl⟩;rw [inOrd_iff.2 fun i h => hn i (by omega) h]
theorem inOrder_spec (G : Nat → DVal) (H : DHeap) (l : List As) (hl : l.length ≤ 1099511627776) : DCalls Tryz.prog G 173 [.vslice (l.flatMap dAs) l.length] H (DRet (.bool (inOrd l)) H) := by
 refine dcalls_intro Tryz.func173 Tryz.call173 rfl (by kernel_rfl) ?_;simp (disch := omega) only [go_sem];refine (sortedAs_spec G _ l hl).mono ?_;rintro _ H1 ⟨rfl, rfl⟩;simp (disch := omega) only [go_sem];exact DFin.refl ⟨rfl, rfl⟩
theorem named_spec (G : Nat → DVal) (H : DHeap) (e : Ex) (k : Nat) (hk : 0 < k) : DCalls Tryz.prog G 115 [.agg (dEx e), .int .i64 k] H (DRet (.bool (namedN e k)) H) := by
 refine dcalls_intro Tryz.func115 Tryz.call115 rfl (by kernel_rfl) ?_;simp (disch := omega) only [go_sem, DVal.cells];intro r hr; dsimp only at hr;by_cases h1 : e.l.length = k
 ·have h1' : (e.l.length : Int) = (k : Int) := by omega
  have hp : 0 < e.l.length := by omega
  have hg := flat_el dEx_len e.l 0 hp;have hfl := flat_len dEx_len e.l;have hgd : e.l.getD 0 ex0 = e.l[0] := by rw [List.getD, List.getElem?_eq_getElem hp]; rfl
  rw [Nat.zero_mul, List.drop_zero] at hg;simp (disch := omega) only [go_sem, h1', hfl, hg];refine (namedE_spec G _ e.l[0]).mono ?_;rintro _ H1 ⟨rfl, rfl⟩;simp (disch := omega) only [go_sem];exact DFin.dropA r hr (DFin.refl ⟨by rw [namedN, decide_eq_true h1, Bool.true_and, hgd], rfl⟩)
 ·have h1' : ¬ (e.l.length : Int) = (k : Int) := by omega
  simp (disch := omega) only [go_sem, h1'];exact DFin.dropA r hr (DFin.refl ⟨by rw [namedN, decide_eq_false h1, Bool.false_and], rfl⟩)
end
end Go.Dl

-- Chapter 3: what is valid: choices, arguments.
namespace Go.Dl
open Go Go.Proofs
set_option maxRecDepth 100000
theorem ch0 {l : List Ch} (h : 0 < l.length) : (l.flatMap dCh)[0]? = some (.int .u8 l[0].kind) ∧ (l.flatMap dCh)[1]? = some (.vslice (l[0].l.flatMap dEx) l[0].l.length) := by
 have h0 := flat_get dCh_len l 0 h 0 (by decide);have h1 := flat_get dCh_len l 0 h 1 (by decide);rw [dCh_0] at h0;rw [dCh_1] at h1;exact ⟨by simpa using h0, by simpa using h1⟩
theorem ex0k {l : List Ex} (h : 0 < l.length) : (l.flatMap dEx)[0]? = some (.int .u8 l[0].kind) := by
 have h0 := flat_get dEx_len l 0 h 0 (by decide);rw [dEx_0] at h0;simpa using h0
section
variable {G : Nat → DVal} {H : DHeap}
theorem simple_spec (G : Nat → DVal) (H : DHeap) (l : List Ch) : DCalls Tryz.prog G 176 [.vslice (l.flatMap dCh) l.length] H (DRet (.bool (simpleCs l)) H) := by
 have hfl := flat_len dCh_len l;refine dcalls_intro Tryz.func176 Tryz.call176 rfl (by kernel_rfl) ?_;by_cases h1 : l.length = 1
 ·have h1' : (l.length : Int) = 1 := by omega
  obtain ⟨g0, g1⟩ := ch0 (l := l) (by omega);obtain ⟨c, rfl⟩ := List.length_eq_one_iff.1 h1;rw [List.getElem_cons_zero] at g0 g1;by_cases h2 : c.kind = 1
  ·by_cases h3 : c.l.length = 1
   ·have h3' : (c.l.length : Int) = 1 := by omega
    have g2 := ex0k (l := c.l) (by omega);have hfe := flat_len dEx_len c.l;obtain ⟨x, hx⟩ := List.length_eq_one_iff.1 h3;have e : c.l[0] = x := by simp [hx]
    rw [e] at g2;have hs : simpleCs [c] = decide (x.kind = 3) := by simp [simpleCs, h2, hx]
    simp (disch := omega) only [go_sem, h1', hfl, g0, g1, h2, h3', g2, hfe];exact DFin.refl ⟨by rw [hs], rfl⟩
   ·have h3' : ¬ (c.l.length : Int) = 1 := by omega
    have hs : simpleCs [c] = false := by
     rw [simpleCs];split
     ·rename_i hx; rw [hx] at h3; simp at h3
     ·simp
    simp (disch := omega) only [go_sem, h1', hfl, g0, g1, h2, h3'];exact DFin.refl ⟨by rw [hs], rfl⟩
  ·simp (disch := omega) only [go_sem, h1', hfl, g0, g1, h2];exact DFin.refl ⟨by simp [simpleCs, h2], rfl⟩
 ·have h1' : ¬ (l.length : Int) = 1 := by omega
  have hs : simpleCs l = false := by
   unfold simpleCs;split
   ·simp at h1
   ·rfl
  simp (disch := omega) only [go_sem, h1'];exact DFin.refl ⟨by rw [hs], rfl⟩
theorem arguments1_spec (G : Nat → DVal) (H : DHeap) (a : As) : DCalls Tryz.prog G 175 [.agg (dAs a)] H (DRet (.bool (!(a.c.isEmpty || simpleCs a.c))) H) := by
 refine dcalls_intro Tryz.func175 Tryz.call175 rfl (by kernel_rfl) ?_;simp (disch := omega) only [go_sem, DVal.cells];intro r hr; dsimp only at hr;by_cases h1 : 0 < a.c.length
 ·have h1' : (0 : Int) < (a.c.length : Int) := by omega
  have he : a.c.isEmpty = false := by rw [isEmpty_len]; exact decide_eq_false (by omega)
  simp (disch := omega) only [go_sem, h1'];refine (simple_spec G _ a.c).mono ?_;rintro _ H1 ⟨rfl, rfl⟩;simp (disch := omega) only [go_sem];exact DFin.dropA r hr (DFin.refl ⟨by rw [he, Bool.false_or], rfl⟩)
 ·have h1' : ¬ (0 : Int) < (a.c.length : Int) := by omega
  have he : a.c.isEmpty = true := by rw [isEmpty_len]; exact decide_eq_true (by omega)
  simp (disch := omega) only [go_sem, h1'];exact DFin.dropA r hr (DFin.refl ⟨by rw [he]; rfl, rfl⟩)
theorem any_not {α : Type} (p : α → Bool) (l : List α) : l.any (fun x => !p x) = !l.all p := by
 induction l with
 | nil => rfl
 | cons x l ih => rw [List.any_cons, List.all_cons, ih, Bool.not_and]
theorem arguments_spec (G : Nat → DVal) (H : DHeap) (l : List As) (hl : l.length ≤ 1099511627776) : DCalls Tryz.prog G 116 [.vslice (l.flatMap dAs) l.length] H (DRet (.bool (argsOk l)) H) := by
 refine dcalls_intro Tryz.func116 Tryz.call116 rfl (by kernel_rfl) ?_;by_cases h1 : 0 < l.length
 ·have h1' : (0 : Int) < (l.length : Int) := by omega
  by_cases h2 : l.length ≤ 8
  ·have h2' : (l.length : Int) ≤ 8 := by omega
   simp (disch := omega) only [go_sem, h1', h2'];refine (inOrder_spec G _ l hl).mono ?_;rintro _ H1 ⟨rfl, rfl⟩;cases h3 : inOrd l with
   | false =>
    simp (disch := omega) only [go_sem];exact DFin.refl ⟨by rw [argsOk, h3, Bool.and_false, Bool.false_and], rfl⟩
   | true =>
    simp (disch := omega) only [go_sem];refine (containsAs G _ (fun a => !(a.c.isEmpty || simpleCs a.c)) l 175 [] [] hl fun x _ => arguments1_spec G _ x).mono ?_;rintro _ H1 ⟨rfl, rfl⟩;rw [any_not];simp (disch := omega) only [go_sem];exact DFin.refl ⟨by rw [argsOk, h3, decide_eq_true h1, decide_eq_true h2, Bool.true_and, Bool.true_and, Bool.true_and, Bool.not_not], rfl⟩
  ·have h2' : ¬ (l.length : Int) ≤ 8 := by omega
   simp (disch := omega) only [go_sem, h1', h2'];exact DFin.refl ⟨by rw [argsOk, decide_eq_false h2, Bool.and_false, Bool.false_and, Bool.false_and], rfl⟩
 ·have h1' : ¬ (0 : Int) < (l.length : Int) := by omega
  simp (disch := omega) only [go_sem, h1'];exact DFin.refl ⟨by rw [argsOk, decide_eq_false h1, Bool.false_and, Bool.false_and, Bool.false_and], rfl⟩
def kindsM : List (DVal × DVal) := [(.int .u8 1, .int .i64 1), (.int .u8 2, .int .i64 2), (.int .u8 3, .int .i64 0)]
theorem right1_spec (G : Nat → DVal) (H : DHeap) (n : Nat) (l : List Ch) (c : Ch) (r1 rm r3 : Nat) (h1 : H r1 = some (.cells [.vslice (l.flatMap dCh) l.length] 40)) (hm : H rm = some (.map kindsM)) (h3 : H r3 = some (.cells [.omap rm] 144)) :
  DCalls Tryz.prog G 131 ([] ++ [.agg (dCh c)] ++ [.optr r3 0, .optr r1 0]) H (DRet (.bool (!rightC l.length c)) H) := by
 refine dcalls_intro Tryz.func131 Tryz.call131 rfl (by kernel_rfl) ?_;simp (disch := omega) only [go_sem, DVal.cells, List.nil_append, List.cons_append];intro r hr; dsimp only at hr;have n1 : r1 ≠ r := none_ne hr h1;have n3 : r3 ≠ r := none_ne hr h3;have nm : rm ≠ r := none_ne hr hm;by_cases k1 : c.kind = 1
 ·simp (disch := omega) only [go_sem, n1, n3, nm, h1, hm, h3, k1, kindsM];refine ⟨_, rfl, ?_⟩;by_cases q : c.l.length = 1
  ·have q' : (c.l.length : Int) = 1 := by omega
   simp (disch := omega) only [go_sem, n1, n3, nm, h1, hm, h3, k1, kindsM, q'];exact DFin.dropA r hr (DFin.refl ⟨by simp [rightC, k1, q], rfl⟩)
  ·have q' : ¬ (1 : Int) = (c.l.length : Int) := by omega
   simp (disch := omega) only [go_sem, n1, n3, nm, h1, hm, h3, k1, kindsM, q'];exact DFin.dropA r hr (DFin.refl ⟨by simp [rightC, k1, q], rfl⟩)
 by_cases k2 : c.kind = 2
 ·simp (disch := omega) only [go_sem, n1, n3, nm, h1, hm, h3, k2, kindsM];refine ⟨_, rfl, ?_⟩;by_cases q : c.l.length = 2
  ·have q' : (c.l.length : Int) = 2 := by omega
   simp (disch := omega) only [go_sem, n1, n3, nm, h1, hm, h3, k2, kindsM, q'];exact DFin.dropA r hr (DFin.refl ⟨by simp [rightC, k2, q], rfl⟩)
  ·have q' : ¬ (2 : Int) = (c.l.length : Int) := by omega
   simp (disch := omega) only [go_sem, n1, n3, nm, h1, hm, h3, k2, kindsM, q'];exact DFin.dropA r hr (DFin.refl ⟨by simp [rightC, k2, q], rfl⟩)
 by_cases k3 : c.kind = 3
 ·simp (disch := omega) only [go_sem, n1, n3, nm, h1, hm, h3, k3, kindsM];refine ⟨_, rfl, ?_⟩;by_cases q : c.l.length = 0
  ·have q' : (c.l.length : Int) = 0 := by omega
   simp (disch := omega) only [go_sem, n1, n3, nm, h1, hm, h3, k3, kindsM, q'];refine DFin.dropA r hr (DFin.refl ⟨?_, rfl⟩);have e : rightC l.length c = decide (l.length ≤ 1) := by simp [rightC, k3, q]
   by_cases q2 : l.length ≤ 1
   ·rw [e, decide_eq_true q2, decide_eq_false (show ¬ (1 : Int) < (l.length : Int) by omega)]; rfl
   ·rw [e, decide_eq_false q2, decide_eq_true (show (1 : Int) < (l.length : Int) by omega)]; rfl
  ·have q' : ¬ (0 : Int) = (c.l.length : Int) := by omega
   simp (disch := omega) only [go_sem, n1, n3, nm, h1, hm, h3, k3, kindsM, q'];exact DFin.dropA r hr (DFin.refl ⟨by simp [rightC, k3, q], rfl⟩)
 ·simp (disch := omega) only [go_sem, n1, n3, nm, h1, hm, h3, k1, k2, k3, kindsM];exact DFin.dropA r hr (DFin.refl ⟨by simp [rightC, k1, k2, k3], rfl⟩)
theorem right_spec (G : Nat → DVal) (H : DHeap) (l : List Ch) (hl : l.length ≤ 1099511627776) : DCalls Tryz.prog G 75 [.vslice (l.flatMap dCh) l.length] H (DRet (.bool (rightCs l)) H) := by
 refine dcalls_intro Tryz.func75 Tryz.call75 rfl (by kernel_rfl) ?_;simp (disch := omega) only [go_sem, DVal.cells];intro r1 hr1; dsimp only at hr1;simp (disch := omega) only [go_sem, DVal.cells];intro rm hrm; dsimp only at hrm;obtain ⟨m1, m2, hrm'⟩ := upd_eq_none.1 hrm;simp (disch := omega) only [go_sem, DVal.cells, m1, m2];intro r3 hr3; dsimp only at hr3;obtain ⟨p1, p2, hr3a⟩ := upd_eq_none.1 hr3;obtain ⟨p3, p4, hr3'⟩ := upd_eq_none.1 hr3a;have hsub : Sub H (upd (upd (upd H r1 (some (.cells [.vslice (l.flatMap dCh) l.length] 40))) rm (some (.map kindsM))) r3 (some (.cells [.omap rm] 144))) := ((Sub.refl H).new hr1 _ |>.new hrm _).new hr3 _;by_cases h1 : 0 < l.length
 ·have h1' : (0 : Int) < (l.length : Int) := by omega
  by_cases h2 : l.length ≤ 16
  ·have h2' : (l.length : Int) ≤ 16 := by omega
   simp (disch := omega) only [go_sem, m1, m2, p1, p2, p3, p4, h1', h2'];refine (containsCh G _ (fun c => !rightC l.length c) l 131 [] [.optr r3 0, .optr r1 0] hl fun x _ => right1_spec G _ l.length l x r1 rm r3 (by simp [upd, m1, m2, p1, p2, p3, p4]) (by simp [upd, m1, m2, p1, p2, p3, p4, kindsM]) (by simp [upd])).mono ?_;rintro _ H1 ⟨rfl, rfl⟩;rw [any_not];simp (disch := omega) only [go_sem, m1, m2, p1, p2, p3, p4];exact DFin.sub hsub (DFin.refl ⟨by rw [rightCs, decide_eq_true h1, decide_eq_true h2, Bool.true_and, Bool.true_and, Bool.not_not], rfl⟩)
  ·have h2' : ¬ (l.length : Int) ≤ 16 := by omega
   simp (disch := omega) only [go_sem, m1, m2, p1, p2, p3, p4, h1', h2'];exact DFin.sub hsub (DFin.refl ⟨by rw [rightCs, decide_eq_false h2, Bool.and_false, Bool.false_and], rfl⟩)
 ·have h1' : ¬ (0 : Int) < (l.length : Int) := by omega
  simp (disch := omega) only [go_sem, m1, m2, p1, p2, p3, p4, h1'];exact DFin.sub hsub (DFin.refl ⟨by rw [rightCs, decide_eq_false h1, Bool.false_and, Bool.false_and], rfl⟩)
end
end Go.Dl

-- Chapter 3: what is valid: associations.
namespace Go.Dl
open Go Go.Proofs
set_option maxRecDepth 100000
theorem firstOthers_at {l : List Ch} (h : 0 < l.length) : firstOthers l = decide (l[0].kind = 3) := by
 cases l with
 | nil => simp at h
 | cons c l => rfl
theorem assoc_step {l : List As} {k : Nat} (hk : k < l.length) : assocAll (l.drop k) = ((l[k].c.isEmpty || rightCs l[k].c && (!firstOthers l[k].c || decide (k + 1 = l.length))) && assocAll (l.drop (k + 1))) := by
 rw [List.drop_eq_getElem_cons hk, assocAll, isEmpty_len (l.drop (k + 1)), List.length_drop];have : (l.length - (k + 1) = 0) ↔ k + 1 = l.length := by omega
 simp only [this]
theorem one_unnamed {l : List As} : oneBare l = (decide (l.length = 1) && (l.getD 0 default).c.isEmpty) :=
 match l with
 | [] => rfl
 | [a] => by simp [oneBare]
 | a :: b :: l => by simp [oneBare]
theorem as0 {l : List As} (h : 0 < l.length) : (l.flatMap dAs)[0]? = some (.vslice (l[0].c.flatMap dCh) l[0].c.length) := by
 have h0 := flat_get dAs_len l 0 h 0 (by decide);rw [dAs_0] at h0;simpa using h0
section
variable {G : Nat → DVal} {H : DHeap}
theorem associations_spec (G : Nat → DVal) (H : DHeap) (l : List As) (hl : l.length ≤ 1099511627776) (hb : ∀ a ∈ l, a.c.length ≤ 1099511627776) : DCalls Tryz.prog G 117 [.vslice (l.flatMap dAs) l.length] H (DRet (.bool (assocsOk l)) H) := by
 refine dcalls_intro Tryz.func117 Tryz.call117 rfl (by kernel_rfl) ?_;by_cases h1 : l.length = 0
 ·have h1' : (l.length : Int) = 0 := by omega
  simp (disch := omega) only [go_sem, h1'];exact DFin.refl ⟨by rw [assocsOk, decide_eq_false (show ¬ 0 < l.length by omega), Bool.false_and, Bool.false_and, Bool.false_and, Bool.false_and], rfl⟩
 have h1' : ¬ (l.length : Int) = 0 := by omega
 have hpos : 0 < l.length := by omega
 by_cases h2 : 32 < l.length
 ·have h2' : (32 : Int) < (l.length : Int) := by omega
  simp (disch := omega) only [go_sem, h1', h2'];exact DFin.refl ⟨by rw [assocsOk, decide_eq_false (show ¬ l.length ≤ 32 by omega), Bool.and_false, Bool.false_and, Bool.false_and, Bool.false_and], rfl⟩
 have h2' : ¬ (32 : Int) < (l.length : Int) := by omega
 simp (disch := omega) only [go_sem, h1', h2'];refine (inOrder_spec G _ l hl).mono ?_;rintro _ H1 ⟨rfl, rfl⟩;have hd : assocsOk l = (inOrd l && (!(decide (l.length = 1) && (l.getD 0 default).c.isEmpty) && assocAll l)) := by
  rw [assocsOk, decide_eq_true hpos, decide_eq_true (show l.length ≤ 32 by omega), Bool.true_and, Bool.true_and, one_unnamed, Bool.and_assoc]
 rw [hd];cases h3 : inOrd l with
 | false =>
  simp (disch := omega) only [go_sem];exact DFin.refl ⟨rfl, rfl⟩
 | true =>
  have hg0 := as0 hpos;have hgd : l.getD 0 default = l[0] := by rw [List.getD, List.getElem?_eq_getElem hpos]; rfl
  have hfl := flat_len dAs_len l;rw [hgd];by_cases h4 : l.length = 1 ∧ l[0].c.length = 0
  ·have h4a : (l.length : Int) = 1 := by omega
   have h4b : (l[0].c.length : Int) = 0 := by omega
   have e4 : l[0].c.isEmpty = true := by rw [isEmpty_len]; exact decide_eq_true h4.2
   simp (disch := omega) only [go_sem, h4a, h4b, hg0, hfl];exact DFin.refl ⟨by simp [e4], rfl⟩
  ·have e4 : (decide (l.length = 1) && l[0].c.isEmpty) = false := by
    rw [isEmpty_len, ← Bool.decide_and]; exact decide_eq_false h4
   rw [e4];by_cases h5 : l.length = 1
   ·have h5' : ((l.length : Int) = 1) = True := eq_true (by omega);have h6' : ¬ (l[0].c.length : Int) = 0 := by omega
    simp (disch := omega) only [go_sem, h5', h6', hg0, hfl];obtain ⟨I, hI⟩ : ∃ I : Nat → (Nat → DVal) → DHeap → Prop, ∀ k env heap, I k env heap ↔ (env 0 = .vslice (l.flatMap dAs) l.length ∧ env 31 = .vslice (l.flatMap dAs) l.length ∧ env 32 = dI l.length ∧ env 33 = dI k ∧ k ≤ l.length ∧ assocAll l = assocAll (l.drop k) ∧ Sub H1 heap) := ⟨_, fun _ _ _ => Iff.rfl⟩;refine DLoop.run I (fun k => l.length - k) 0 ((hI _ _ _).2 ?_) ?_
    ·simp (disch := omega) only [go_sem];(repeat' apply And.intro) <;> (try first | rfl | assumption | omega);exact Sub.refl _
    ·intro k env heap hi;obtain ⟨e0, e31, e32, e33, hk, hall, hsub⟩ := (hI _ _ _).1 hi;by_cases hlt : k < l.length
     ·have hlt' : (k : Int) < (l.length : Int) := by omega
      have hget := flat_el dAs_len l k hlt;have hwd : IntKind.i64.wrap ((k : Int) + 1) = ((k + 1 : Nat) : Int) := by rw [IntKind.wrap_i64]; omega
      have hwl : IntKind.i64.wrap ((l.length : Int) - 1) = (l.length : Int) - 1 := by rw [IntKind.wrap_i64]; omega
      have hba := hb l[k] (List.getElem_mem hlt);rw [assoc_step hlt] at hall;simp (disch := omega) only [go_sem, e0, e31, e32, e33, hlt', hget, hfl, Int.toNat_natCast];intro r4 hr4; dsimp only at hr4;by_cases q1 : 0 < l[k].c.length
      ·have q1' : (0 : Int) < (l[k].c.length : Int) := by omega
       have e1 : l[k].c.isEmpty = false := by rw [isEmpty_len]; exact decide_eq_false (by omega)
       rw [e1, Bool.false_or] at hall;simp (disch := omega) only [go_sem, e0, e31, e32, e33, q1'];refine (right_spec G _ l[k].c hba).mono ?_;rintro _ H2 ⟨rfl, rfl⟩;cases q2 : rightCs l[k].c with
       | false =>
        rw [q2, Bool.false_and, Bool.false_and] at hall;simp (disch := omega) only [go_sem, e0, e31, e32, e33];exact DFin.sub (hsub.new hr4 _) (DFin.refl ⟨by rw [hall], rfl⟩)
       | true =>
        obtain ⟨g0, _⟩ := ch0 q1;have hfc := flat_len dCh_len l[k].c;rw [q2, Bool.true_and, firstOthers_at q1] at hall;by_cases q3 : l[k].c[0].kind = 3
        ·rw [decide_eq_true q3, Bool.not_true, Bool.false_or] at hall;by_cases q4 : k + 1 = l.length
         ·have q4' : ¬ (k : Int) < (l.length : Int) - 1 := by omega
          rw [decide_eq_true q4, Bool.true_and] at hall;simp (disch := omega) only [go_sem, e0, e31, e32, e33, g0, hfc, q3, q4', hwl];refine ⟨k + 1, _, GhostS.refl _, (hI _ _ _).2 ?_, by omega⟩;simp (disch := omega) only [go_sem, e0, e31, e32, e33, hwd];(repeat' apply And.intro) <;> (try first | rfl | assumption | omega);all_goals exact hsub.new hr4 _
         ·have q4' : (k : Int) < (l.length : Int) - 1 := by omega
          rw [decide_eq_false q4, Bool.false_and] at hall;simp (disch := omega) only [go_sem, e0, e31, e32, e33, g0, hfc, q3, q4', hwl];exact DFin.sub (hsub.new hr4 _) (DFin.refl ⟨by rw [hall], rfl⟩)
        ·rw [decide_eq_false q3, Bool.not_false, Bool.true_or, Bool.true_and] at hall;simp (disch := omega) only [go_sem, e0, e31, e32, e33, g0, hfc, q3];refine ⟨k + 1, _, GhostS.refl _, (hI _ _ _).2 ?_, by omega⟩;simp (disch := omega) only [go_sem, e0, e31, e32, e33, hwd];(repeat' apply And.intro) <;> (try first | rfl | assumption | omega);all_goals exact hsub.new hr4 _
      ·have q1' : ¬ (0 : Int) < (l[k].c.length : Int) := by omega
       have e1 : l[k].c.isEmpty = true := by rw [isEmpty_len]; exact decide_eq_true (by omega)
       rw [e1, Bool.true_or, Bool.true_and] at hall;simp (disch := omega) only [go_sem, e0, e31, e32, e33, q1'];refine ⟨k + 1, _, GhostS.refl _, (hI _ _ _).2 ?_, by omega⟩;simp (disch := omega) only [go_sem, e0, e31, e32, e33, hwd];(repeat' apply And.intro) <;> (try first | rfl | assumption | omega);all_goals exact hsub.new hr4 _
     ·have : k = l.length := by omega
      subst this;rw [List.drop_length] at hall;simp (disch := omega) only [go_sem, e0, e31, e32, e33];exact DFin.sub hsub (DFin.refl ⟨by rw [hall]; rfl, rfl⟩)
   ·have h5' : ¬ (l.length : Int) = 1 := by omega
    simp (disch := omega) only [go_sem, h5'];obtain ⟨I, hI⟩ : ∃ I : Nat → (Nat → DVal) → DHeap → Prop, ∀ k env heap, I k env heap ↔ (env 0 = .vslice (l.flatMap dAs) l.length ∧ env 31 = .vslice (l.flatMap dAs) l.length ∧ env 32 = dI l.length ∧ env 33 = dI k ∧ k ≤ l.length ∧ assocAll l = assocAll (l.drop k) ∧ Sub H1 heap) := ⟨_, fun _ _ _ => Iff.rfl⟩;refine DLoop.run I (fun k => l.length - k) 0 ((hI _ _ _).2 ?_) ?_
    ·simp (disch := omega) only [go_sem];(repeat' apply And.intro) <;> (try first | rfl | assumption | omega);exact Sub.refl _
    ·intro k env heap hi;obtain ⟨e0, e31, e32, e33, hk, hall, hsub⟩ := (hI _ _ _).1 hi;by_cases hlt : k < l.length
     ·have hlt' : (k : Int) < (l.length : Int) := by omega
      have hget := flat_el dAs_len l k hlt;have hwd : IntKind.i64.wrap ((k : Int) + 1) = ((k + 1 : Nat) : Int) := by rw [IntKind.wrap_i64]; omega
      have hwl : IntKind.i64.wrap ((l.length : Int) - 1) = (l.length : Int) - 1 := by rw [IntKind.wrap_i64]; omega
      have hba := hb l[k] (List.getElem_mem hlt);rw [assoc_step hlt] at hall;simp (disch := omega) only [go_sem, e0, e31, e32, e33, hlt', hget, hfl, Int.toNat_natCast];intro r4 hr4; dsimp only at hr4;by_cases q1 : 0 < l[k].c.length
      ·have q1' : (0 : Int) < (l[k].c.length : Int) := by omega
       have e1 : l[k].c.isEmpty = false := by rw [isEmpty_len]; exact decide_eq_false (by omega)
       rw [e1, Bool.false_or] at hall;simp (disch := omega) only [go_sem, e0, e31, e32, e33, q1'];refine (right_spec G _ l[k].c hba).mono ?_;rintro _ H2 ⟨rfl, rfl⟩;cases q2 : rightCs l[k].c with
       | false =>
        rw [q2, Bool.false_and, Bool.false_and] at hall;simp (disch := omega) only [go_sem, e0, e31, e32, e33];exact DFin.sub (hsub.new hr4 _) (DFin.refl ⟨by rw [hall], rfl⟩)
       | true =>
        obtain ⟨g0, _⟩ := ch0 q1;have hfc := flat_len dCh_len l[k].c;rw [q2, Bool.true_and, firstOthers_at q1] at hall;by_cases q3 : l[k].c[0].kind = 3
        ·rw [decide_eq_true q3, Bool.not_true, Bool.false_or] at hall;by_cases q4 : k + 1 = l.length
         ·have q4' : ¬ (k : Int) < (l.length : Int) - 1 := by omega
          rw [decide_eq_true q4, Bool.true_and] at hall;simp (disch := omega) only [go_sem, e0, e31, e32, e33, g0, hfc, q3, q4', hwl];refine ⟨k + 1, _, GhostS.refl _, (hI _ _ _).2 ?_, by omega⟩;simp (disch := omega) only [go_sem, e0, e31, e32, e33, hwd];(repeat' apply And.intro) <;> (try first | rfl | assumption | omega);all_goals exact hsub.new hr4 _
         ·have q4' : (k : Int) < (l.length : Int) - 1 := by omega
          rw [decide_eq_false q4, Bool.false_and] at hall;simp (disch := omega) only [go_sem, e0, e31, e32, e33, g0, hfc, q3, q4', hwl];exact DFin.sub (hsub.new hr4 _) (DFin.refl ⟨by rw [hall], rfl⟩)
        ·rw [decide_eq_false q3, Bool.not_false, Bool.true_or, Bool.true_and] at hall;simp (disch := omega) only [go_sem, e0, e31, e32, e33, g0, hfc, q3];refine ⟨k + 1, _, GhostS.refl _, (hI _ _ _).2 ?_, by omega⟩;simp (disch := omega) only [go_sem, e0, e31, e32, e33, hwd];(repeat' apply And.intro) <;> (try first | rfl | assumption | omega);all_goals exact hsub.new hr4 _
      ·have q1' : ¬ (0 : Int) < (l[k].c.length : Int) := by omega
       have e1 : l[k].c.isEmpty = true := by rw [isEmpty_len]; exact decide_eq_true (by omega)
       rw [e1, Bool.true_or, Bool.true_and] at hall;simp (disch := omega) only [go_sem, e0, e31, e32, e33, q1'];refine ⟨k + 1, _, GhostS.refl _, (hI _ _ _).2 ?_, by omega⟩;simp (disch := omega) only [go_sem, e0, e31, e32, e33, hwd];(repeat' apply And.intro) <;> (try first | rfl | assumption | omega);all_goals exact hsub.new hr4 _
     ·have : k = l.length := by omega
      subst this;rw [List.drop_length] at hall;simp (disch := omega) only [go_sem, e0, e31, e32, e33];exact DFin.sub hsub (DFin.refl ⟨by rw [hall]; rfl, rfl⟩)
end
end Go.Dl

-- Chapter 3: each.
namespace Go.Dl
open Go Go.Proofs
set_option maxRecDepth 100000
def RunR {σ : Type} (R : Ex → σ → Bool → σ → Prop) : List Ex → σ → Bool → σ → Prop
 | [], s, b, s' => b = true ∧ s' = s
 | x :: l, s, b, s' => ∃ b1 s1, R x s b1 s1 ∧ ((b1 = true ∧ RunR R l s1 b s') ∨ (b1 = false ∧ b = false ∧ s' = s1))
def ContR {σ : Type} (R : Ex → σ → Bool → σ → Prop) (all : List Ex) (s0 : σ) (rest : List Ex) (s : σ) : Prop := ∀ b s', RunR R rest s b s' → RunR R all s0 b s'
section
variable {σ : Type} {R : Ex → σ → Bool → σ → Prop} {all rest : List Ex} {s0 s s1 : σ} {x : Ex}
theorem ContR.next (h : ContR R all s0 (x :: rest) s) (k : R x s true s1) : ContR R all s0 rest s1 := fun b s' hr => h b s' ⟨true, s1, k, .inl ⟨rfl, hr⟩⟩
theorem ContR.no (h : ContR R all s0 (x :: rest) s) (k : R x s false s1) : RunR R all s0 false s1 := h false s1 ⟨false, s1, k, .inr ⟨rfl, rfl, rfl⟩⟩
theorem ContR.fin (h : ContR R all s0 [] s) : RunR R all s0 true s := h true s ⟨rfl, rfl⟩
end
def Turn (r : Nat) (H H' : DHeap) : Prop := ∀ b o, b ≠ r → H b = some o → H' b = some o
theorem Turn.refl (r : Nat) (H : DHeap) : Turn r H H := fun _ _ _ h => h
theorem Turn.trans {r : Nat} {H H' H'' : DHeap} (h : Turn r H H') (k : Turn r H' H'') : Turn r H H'' := fun b o hb hh => k b o hb (h b o hb hh)
theorem Turn.new {r : Nat} {H H' : DHeap} (h : Turn r H H') {q : Nat} (hq : H' q = none) (x : Option DObj) : Turn r H (upd H' q x) := fun b o hb hh => by
 have := h b o hb hh;have : b ≠ q := fun e => by rw [e, hq] at this; cases this
 simp only [upd, if_neg this]; exact h b o hb hh
theorem Turn.set {r : Nat} {H H' : DHeap} (h : Turn r H H') (x : Option DObj) : Turn r H (upd H' r x) := fun b o hb hh => by
 simp only [upd, if_neg hb]; exact h b o hb hh
theorem Turn.sub {r : Nat} {H H' : DHeap} (h : Turn r H H') {H0 : DHeap} (k : Sub H0 H) (hr : H0 r = none) : Sub H0 H' := fun b o hb => h b o (fun e => by rw [e, hr] at hb; cases hb) (k b o hb)
def intO (s : Int) : DObj := .cells [.int .i64 s] 3
section
variable {G : Nat → DVal}
def EachQ (R : Ex → Int → Bool → Int → Prop) (all : List Ex) (s0 : Int) (r : Nat) (H0 : DHeap) (e : DEnd) (H' : DHeap) : Prop :=
 ∃ b s', e = .ret (.bool b) ∧ RunR R all s0 b s' ∧ H' r = some (intO s') ∧ Turn r H0 H'
def StepQ (R : Ex → Int → Bool → Int → Prop) (x : Ex) (s : Int) (r : Nat) (H : DHeap) (e : DEnd) (H' : DHeap) : Prop :=
 ∃ b s', e = .ret (.bool b) ∧ R x s b s' ∧ H' r = some (intO s') ∧ Turn r H H'
set_option maxHeartbeats 4000000 in
theorem each_spec (G : Nat → DVal) (H0 : DHeap) (e : Ex) (hb : bigE e ≤ 1099511627776) (g : FuncId) (xs ys : List DVal) (R : Ex → Int → Bool → Int → Prop) (r : Nat) (s0 : Int) (hr : H0 r = some (intO s0))
  (hf : ∀ x ∈ parts e, ∀ s H, H r = some (intO s) → Turn r H0 H → DCalls Tryz.prog G g (xs ++ [.agg (dEx x)] ++ ys) H (StepQ R x s r H)) :
  DCalls Tryz.prog G 58 [.agg (dEx e), .func (.func g) xs ys] H0 (EachQ R (parts e) s0 r H0) := by
 have hal := @big_a e;have hll := @big_l e;have hfl := flat_len dEx_len e.l;have hfa := flat_len dAs_len e.a;refine dcalls_intro Tryz.func58 Tryz.call58 rfl (by kernel_rfl) ?_;simp (disch := omega) only [go_sem, DVal.cells];intro r2 hr2; dsimp only at hr2;have n2 : r ≠ r2 := none_ne hr2 hr;have n2' : r2 ≠ r := n2.symm;simp (disch := omega) only [go_sem];obtain ⟨I, hI⟩ : ∃ I : Nat × Int → (Nat → DVal) → DHeap → Prop, ∀ k env heap, I k env heap ↔ (env 1 = .func (.func g) xs ys ∧ env 2 = .optr r2 0 ∧ env 14 = .vslice (e.l.flatMap dEx) e.l.length ∧ env 15 = dI e.l.length ∧ env 16 = dI k.1 ∧ k.1 ≤ e.l.length ∧ heap r = some (intO k.2) ∧ heap r2 = some (.cells (dEx e) 27) ∧ Turn r H0 heap ∧ ContR R (parts e) s0 (e.l.drop k.1 ++ e.a.flatMap partsA) k.2) := ⟨_, fun _ _ _ => Iff.rfl⟩;refine DLoop.run I (fun k => e.l.length - k.1) (0, s0) ((hI _ _ _).2 ?_) ?_
 ·simp (disch := omega) only [go_sem, n2, n2'];(repeat' apply And.intro) <;> (try first | rfl | assumption | omega)
  ·exact (Turn.refl r H0).new hr2 _
  ·exact fun b s' h => h
 ·rintro ⟨k, s⟩ env heap hi;obtain ⟨e1, e2, e14, e15, e16, hk, hh, hh2, ht, hc⟩ := (hI _ _ _).1 hi;dsimp only at e16 hk hh hc;by_cases hlt : k < e.l.length
  ·have hlt' : (k : Int) < (e.l.length : Int) := by omega
   have hget := flat_el dEx_len e.l k hlt;have hwd : IntKind.i64.wrap ((k : Int) + 1) = ((k + 1 : Nat) : Int) := by rw [IntKind.wrap_i64]; omega
   rw [List.drop_eq_getElem_cons hlt, List.cons_append] at hc;simp (disch := omega) only [go_sem, e1, e2, e14, e15, e16, hlt', hget, hfl, Int.toNat_natCast];intro r6 hr6; dsimp only at hr6;have n6 : r ≠ r6 := none_ne hr6 hh;have n62 : r2 ≠ r6 := none_ne hr6 hh2;have ht6 := ht.new hr6 (some (.cells (dEx e.l[k]) 27));simp (disch := omega) only [go_sem, e1, e2, e14, e15, e16];refine (hf e.l[k] (mem_parts_l (List.getElem_mem hlt)) s _ (by simp only [upd, if_neg n6]; exact hh) ht6).mono ?_;rintro _ H2 ⟨b, s1, rfl, hR, hh', ht'⟩;have hh2' : H2 r2 = some (.cells (dEx e) 27) := ht' r2 _ n2' (by simp only [upd, if_neg n62]; exact hh2);cases b with
   | false =>
    simp (disch := omega) only [go_sem, e1, e2, e14, e15, e16];exact DFin.refl ⟨false, s1, rfl, hc.no hR, hh', ht6.trans ht'⟩
   | true =>
    simp (disch := omega) only [go_sem, e1, e2, e14, e15, e16];refine ⟨(k + 1, s1), _, GhostS.refl _, (hI _ _ _).2 ?_, by dsimp only; omega⟩;simp (disch := omega) only [go_sem, e1, e2, e14, e15, e16, hwd];(repeat' apply And.intro) <;> (try first | rfl | assumption | omega)
    ·exact ht6.trans ht'
    ·exact hc.next hR
  ·have : k = e.l.length := by omega
   subst this;rw [List.drop_length, List.nil_append] at hc;simp (disch := omega) only [go_sem, e1, e2, e14, e15, e16, hh2];obtain ⟨J, hJ⟩ : ∃ J : Nat × Int → (Nat → DVal) → DHeap → Prop, ∀ k env heap, J k env heap ↔ (env 1 = .func (.func g) xs ys ∧ env 26 = .vslice (e.a.flatMap dAs) e.a.length ∧ env 27 = dI e.a.length ∧ env 28 = dI k.1 ∧ k.1 ≤ e.a.length ∧ heap r = some (intO k.2) ∧ Turn r H0 heap ∧ ContR R (parts e) s0 ((e.a.drop k.1).flatMap partsA) k.2) := ⟨_, fun _ _ _ => Iff.rfl⟩;refine DLoop.run J (fun k => e.a.length - k.1) (0, s) ((hJ _ _ _).2 ?_) ?_
   ·simp (disch := omega) only [go_sem, e1, e2, hh2];(repeat' apply And.intro) <;> (try first | rfl | assumption | omega)
   ·rintro ⟨j, s⟩ env heap hi;obtain ⟨e1, e26, e27, e28, hj, hh, ht, hc⟩ := (hJ _ _ _).1 hi;dsimp only at e28 hj hh hc;by_cases hjl : j < e.a.length
    ·have hjl' : (j : Int) < (e.a.length : Int) := by omega
     have hget := flat_el dAs_len e.a j hjl;have hwj : IntKind.i64.wrap ((j : Int) + 1) = ((j + 1 : Nat) : Int) := by rw [IntKind.wrap_i64]; omega
     have hma := List.getElem_mem hjl;have hba := big_ae hma;obtain ⟨a, ha⟩ : ∃ a, a = e.a[j] := ⟨_, rfl⟩;rw [List.drop_eq_getElem_cons hjl, List.flatMap_cons, partsA, List.append_assoc, ← ha] at hc;rw [← ha] at hget hma hba;have hbc := bigCs_len a.c;have hfc := flat_len dCh_len a.c;rw [bigA_eq] at hba;simp (disch := omega) only [go_sem, e1, e26, e27, e28, hjl', hget, hfa, Int.toNat_natCast];intro r8 hr8; dsimp only at hr8;have n8 : r ≠ r8 := none_ne hr8 hh;have ht8 := ht.new hr8 (some (.cells (dAs a) 47));simp (disch := omega) only [go_sem, e1, e26, e27, e28];obtain ⟨K, hK⟩ : ∃ K : Nat × Int → (Nat → DVal) → DHeap → Prop, ∀ k env heap, K k env heap ↔ (env 1 = .func (.func g) xs ys ∧ env 8 = .optr r8 0 ∧ env 26 = .vslice (e.a.flatMap dAs) e.a.length ∧ env 27 = dI e.a.length ∧ env 28 = dI j ∧ env 33 = .vslice (a.c.flatMap dCh) a.c.length ∧ env 34 = dI a.c.length ∧ env 35 = dI k.1 ∧ k.1 ≤ a.c.length ∧ heap r = some (intO k.2) ∧ heap r8 = some (.cells (dAs a) 47) ∧ Turn r H0 heap ∧ ContR R (parts e) s0 ((a.c.drop k.1).flatMap Ch.l ++ ([a.e] ++ (e.a.drop (j + 1)).flatMap partsA)) k.2) := ⟨_, fun _ _ _ => Iff.rfl⟩;refine DLoop.run K (fun k => a.c.length - k.1) (0, s) ((hK _ _ _).2 ?_) ?_
     ·simp (disch := omega) only [go_sem, e1, e26, e27, e28, n8];(repeat' apply And.intro) <;> (try first | rfl | assumption | omega)
     ·rintro ⟨m, s⟩ env heap hi;obtain ⟨e1, e8, e26, e27, e28, e33, e34, e35, hm, hh, hh8, ht, hc⟩ := (hK _ _ _).1 hi;dsimp only at e35 hm hh hc;by_cases hml : m < a.c.length
      ·have hml' : (m : Int) < (a.c.length : Int) := by omega
       have hget := flat_el dCh_len a.c m hml;have hwm : IntKind.i64.wrap ((m : Int) + 1) = ((m + 1 : Nat) : Int) := by rw [IntKind.wrap_i64]; omega
       have hmc := List.getElem_mem hml;have hbm := bigCs_mem hmc;obtain ⟨c, hcc⟩ : ∃ c, c = a.c[m] := ⟨_, rfl⟩;rw [List.drop_eq_getElem_cons hml, List.flatMap_cons, List.append_assoc, ← hcc] at hc;rw [← hcc] at hget hmc hbm;have hbl := bigL_len c.l;have hfx := flat_len dEx_len c.l;rw [bigC_eq] at hbm;simp (disch := omega) only [go_sem, e1, e8, e26, e27, e28, e33, e34, e35, hml', hget, hfc, Int.toNat_natCast];intro r10 hr10; dsimp only at hr10;have n10 : r ≠ r10 := none_ne hr10 hh;have n108 : r8 ≠ r10 := none_ne hr10 hh8;have ht10 := ht.new hr10 (some (.cells (dCh c) 71));simp (disch := omega) only [go_sem, e1, e8, e26, e27, e28, e33, e34, e35];obtain ⟨M, hM⟩ : ∃ M : Nat × Int → (Nat → DVal) → DHeap → Prop, ∀ k env heap, M k env heap ↔ (env 1 = .func (.func g) xs ys ∧ env 8 = .optr r8 0 ∧ env 26 = .vslice (e.a.flatMap dAs) e.a.length ∧ env 27 = dI e.a.length ∧ env 28 = dI j ∧ env 33 = .vslice (a.c.flatMap dCh) a.c.length ∧ env 34 = dI a.c.length ∧ env 35 = dI m ∧ env 40 = .vslice (c.l.flatMap dEx) c.l.length ∧ env 41 = dI c.l.length ∧ env 42 = dI k.1 ∧ k.1 ≤ c.l.length ∧ heap r = some (intO k.2) ∧ heap r8 = some (.cells (dAs a) 47) ∧ Turn r H0 heap ∧ ContR R (parts e) s0 (c.l.drop k.1 ++ ((a.c.drop (m + 1)).flatMap Ch.l ++ ([a.e] ++ (e.a.drop (j + 1)).flatMap partsA))) k.2) := ⟨_, fun _ _ _ => Iff.rfl⟩;refine DLoop.run M (fun k => c.l.length - k.1) (0, s) ((hM _ _ _).2 ?_) ?_
       ·simp (disch := omega) only [go_sem, e1, e8, e26, e27, e28, e33, e34, e35, n10, n108];(repeat' apply And.intro) <;> (try first | rfl | assumption | omega)
       ·rintro ⟨q, s⟩ env heap hi;obtain ⟨e1, e8, e26, e27, e28, e33, e34, e35, e40, e41, e42, hq, hh, hh8, ht, hc⟩ := (hM _ _ _).1 hi;dsimp only at e42 hq hh hc;by_cases hql : q < c.l.length
        ·have hql' : (q : Int) < (c.l.length : Int) := by omega
         have hget := flat_el dEx_len c.l q hql;have hwq : IntKind.i64.wrap ((q : Int) + 1) = ((q + 1 : Nat) : Int) := by rw [IntKind.wrap_i64]; omega
         rw [List.drop_eq_getElem_cons hql, List.cons_append] at hc;simp (disch := omega) only [go_sem, e1, e8, e26, e27, e28, e33, e34, e35, e40, e41, e42, hql', hget, hfx, Int.toNat_natCast];intro r12 hr12; dsimp only at hr12;have n12 : r ≠ r12 := none_ne hr12 hh;have n128 : r8 ≠ r12 := none_ne hr12 hh8;have ht12 := ht.new hr12 (some (.cells (dEx c.l[q]) 27));simp (disch := omega) only [go_sem, e1, e8, e26, e27, e28, e33, e34, e35, e40, e41, e42];refine (hf c.l[q] (mem_parts_a hma (mem_partsA_c hmc (List.getElem_mem hql))) s _ (by simp only [upd, if_neg n12]; exact hh) ht12).mono ?_;rintro _ H2 ⟨b, s1, rfl, hR, hh', ht'⟩;have hh8' : H2 r8 = some (.cells (dAs a) 47) := ht' r8 _ n8.symm (by simp only [upd, if_neg n128]; exact hh8);cases b with
         | false =>
          simp (disch := omega) only [go_sem, e1, e8, e26, e27, e28, e33, e34, e35, e40, e41, e42];exact DFin.refl ⟨false, s1, rfl, hc.no hR, hh', ht12.trans ht'⟩
         | true =>
          simp (disch := omega) only [go_sem, e1, e8, e26, e27, e28, e33, e34, e35, e40, e41, e42];refine ⟨(q + 1, s1), _, GhostS.refl _, (hM _ _ _).2 ?_, by dsimp only; omega⟩;simp (disch := omega) only [go_sem, e1, e8, e26, e27, e28, e33, e34, e35, e40, e41, e42, hwq];(repeat' apply And.intro) <;> (try first | rfl | assumption | omega)
          ·exact ht12.trans ht'
          ·exact hc.next hR
        ·have : q = c.l.length := by omega
         subst this;rw [List.drop_length, List.nil_append] at hc;simp (disch := omega) only [go_sem, e1, e8, e26, e27, e28, e33, e34, e35, e40, e41, e42];refine ⟨(m + 1, s), _, GhostS.refl _, (hK _ _ _).2 ?_, by dsimp only; omega⟩;simp (disch := omega) only [go_sem, e1, e8, e26, e27, e28, e33, e34, e35, hwm];(repeat' apply And.intro) <;> (try first | rfl | assumption | omega)
      ·have : m = a.c.length := by omega
       subst this;rw [List.drop_length, List.flatMap_nil, List.nil_append, List.cons_append, List.nil_append] at hc;have hda := dAs_1 a;simp (disch := omega) only [go_sem, e1, e8, e26, e27, e28, e33, e34, e35, hh8, hda];refine (hf a.e (mem_parts_a hma (mem_partsA_e a)) s _ hh ht).mono ?_;rintro _ H2 ⟨b, s1, rfl, hR, hh', ht'⟩;cases b with
       | false =>
        simp (disch := omega) only [go_sem, e1, e8, e26, e27, e28, e33, e34, e35];exact DFin.refl ⟨false, s1, rfl, hc.no hR, hh', ht.trans ht'⟩
       | true =>
        simp (disch := omega) only [go_sem, e1, e8, e26, e27, e28, e33, e34, e35];refine ⟨(j + 1, s1), _, GhostS.refl _, (hJ _ _ _).2 ?_, by dsimp only; omega⟩;simp (disch := omega) only [go_sem, e1, e8, e26, e27, e28, e33, e34, e35, hwj];(repeat' apply And.intro) <;> (try first | rfl | assumption | omega)
        ·exact ht.trans ht'
        ·exact hc.next hR
    ·have : j = e.a.length := by omega
     subst this;rw [List.drop_length, List.flatMap_nil] at hc;simp (disch := omega) only [go_sem, e1, e26, e27, e28];exact DFin.refl ⟨true, s, rfl, hc.fin, hh, ht⟩
end
end Go.Dl

-- Chapter 3: what is valid: the fields of an expression (printed by gen_u6.py).
namespace Go.Dl
open Go Go.Proofs
set_option maxRecDepth 100000
section
variable {G : Nat → DVal} {H : DHeap}
set_option maxHeartbeats 4000000 in
theorem fields_spec (hG : GX G) (H : DHeap) (e : Ex) (hb : bigE e ≤ 1099511627776) (hs : e.s.length ≤ 9223372036854775807) : DCalls Tryz.prog G 57 [.agg (dEx e)] H (DRet (.bool (fieldsE e)) H) := by
 have hal := @big_a e;have hll := @big_l e;have hfl := flat_len dEx_len e.l;have hac : ∀ a ∈ e.a, a.c.length ≤ 1099511627776 := fun a ha => by
  have h1 := big_ae ha;have h2 := bigCs_len a.c;rw [bigA_eq] at h1; omega
 have s1 : splice (dEx e) 0 [DVal.int .u8 0] = [DVal.int .u8 0, DVal.int .u8 e.oper, DVal.int .i64 e.n, DVal.str e.s, DVal.vslice (e.l.flatMap dEx) e.l.length, DVal.vslice (e.a.flatMap dAs) e.a.length, DVal.int .i64 e.line, DVal.int .i64 e.ent, DVal.int .i64 e.t] := by rw [dEx_eq]; rfl
 have s2 : splice [DVal.int .u8 0, DVal.int .u8 e.oper, DVal.int .i64 e.n, DVal.str e.s, DVal.vslice (e.l.flatMap dEx) e.l.length, DVal.vslice (e.a.flatMap dAs) e.a.length, DVal.int .i64 e.line, DVal.int .i64 e.ent, DVal.int .i64 e.t] 6 [DVal.int .i64 0] = [DVal.int .u8 0, DVal.int .u8 e.oper, DVal.int .i64 e.n, DVal.str e.s, DVal.vslice (e.l.flatMap dEx) e.l.length, DVal.vslice (e.a.flatMap dAs) e.a.length, DVal.int .i64 0, DVal.int .i64 e.ent, DVal.int .i64 e.t] := rfl;have s3 : splice [DVal.int .u8 0, DVal.int .u8 e.oper, DVal.int .i64 e.n, DVal.str e.s, DVal.vslice (e.l.flatMap dEx) e.l.length, DVal.vslice (e.a.flatMap dAs) e.a.length, DVal.int .i64 0, DVal.int .i64 e.ent, DVal.int .i64 e.t] 7 [DVal.int .i64 0] = [DVal.int .u8 0, DVal.int .u8 e.oper, DVal.int .i64 e.n, DVal.str e.s, DVal.vslice (e.l.flatMap dEx) e.l.length, DVal.vslice (e.a.flatMap dAs) e.a.length, DVal.int .i64 0, DVal.int .i64 0, DVal.int .i64 e.t] := rfl;have s4 : splice [DVal.int .u8 0, DVal.int .u8 e.oper, DVal.int .i64 e.n, DVal.str e.s, DVal.vslice (e.l.flatMap dEx) e.l.length, DVal.vslice (e.a.flatMap dAs) e.a.length, DVal.int .i64 0, DVal.int .i64 0, DVal.int .i64 e.t] 8 [DVal.int .i64 0] = [DVal.int .u8 0, DVal.int .u8 e.oper, DVal.int .i64 e.n, DVal.str e.s, DVal.vslice (e.l.flatMap dEx) e.l.length, DVal.vslice (e.a.flatMap dAs) e.a.length, DVal.int .i64 0, DVal.int .i64 0, DVal.int .i64 0] := rfl;have s5 : splice [DVal.int .u8 0, DVal.int .u8 e.oper, DVal.int .i64 e.n, DVal.str e.s, DVal.vslice (e.l.flatMap dEx) e.l.length, DVal.vslice (e.a.flatMap dAs) e.a.length, DVal.int .i64 0, DVal.int .i64 0, DVal.int .i64 0] 4 [DVal.nilSlice] = [DVal.int .u8 0, DVal.int .u8 e.oper, DVal.int .i64 e.n, DVal.str e.s, DVal.nilSlice, DVal.vslice (e.a.flatMap dAs) e.a.length, DVal.int .i64 0, DVal.int .i64 0, DVal.int .i64 0] := rfl;have sO : splice [DVal.int .u8 0, DVal.int .u8 e.oper, DVal.int .i64 e.n, DVal.str e.s, DVal.nilSlice, DVal.vslice (e.a.flatMap dAs) e.a.length, DVal.int .i64 0, DVal.int .i64 0, DVal.int .i64 0] 1 [DVal.int .u8 0] = [DVal.int .u8 0, DVal.int .u8 0, DVal.int .i64 e.n, DVal.str e.s, DVal.nilSlice, DVal.vslice (e.a.flatMap dAs) e.a.length, DVal.int .i64 0, DVal.int .i64 0, DVal.int .i64 0] := rfl;have sN : splice [DVal.int .u8 0, DVal.int .u8 e.oper, DVal.int .i64 e.n, DVal.str e.s, DVal.nilSlice, DVal.vslice (e.a.flatMap dAs) e.a.length, DVal.int .i64 0, DVal.int .i64 0, DVal.int .i64 0] 2 [DVal.int .i64 0] = [DVal.int .u8 0, DVal.int .u8 e.oper, DVal.int .i64 0, DVal.str e.s, DVal.nilSlice, DVal.vslice (e.a.flatMap dAs) e.a.length, DVal.int .i64 0, DVal.int .i64 0, DVal.int .i64 0] := rfl;have sS : splice [DVal.int .u8 0, DVal.int .u8 e.oper, DVal.int .i64 e.n, DVal.str e.s, DVal.nilSlice, DVal.vslice (e.a.flatMap dAs) e.a.length, DVal.int .i64 0, DVal.int .i64 0, DVal.int .i64 0] 3 [DVal.str []] = [DVal.int .u8 0, DVal.int .u8 e.oper, DVal.int .i64 e.n, DVal.str [], DVal.nilSlice, DVal.vslice (e.a.flatMap dAs) e.a.length, DVal.int .i64 0, DVal.int .i64 0, DVal.int .i64 0] := rfl;have sA : splice [DVal.int .u8 0, DVal.int .u8 e.oper, DVal.int .i64 e.n, DVal.str e.s, DVal.nilSlice, DVal.vslice (e.a.flatMap dAs) e.a.length, DVal.int .i64 0, DVal.int .i64 0, DVal.int .i64 0] 5 [DVal.nilSlice] = [DVal.int .u8 0, DVal.int .u8 e.oper, DVal.int .i64 e.n, DVal.str e.s, DVal.nilSlice, DVal.nilSlice, DVal.int .i64 0, DVal.int .i64 0, DVal.int .i64 0] := rfl;refine dcalls_intro Tryz.func57 Tryz.call57 rfl (by kernel_rfl) ?_;simp (disch := omega) only [go_sem, DVal.cells];intro r1 hr1; dsimp only at hr1;simp (disch := omega) only [go_sem, DVal.cells];intro r3 hr3; dsimp only at hr3;obtain ⟨m1, m2, hr3'⟩ := upd_eq_none.1 hr3;by_cases k1 : e.kind = 1
 ·skip
  by_cases clen0 : e.l.length = 0
  ·have clen0' : (e.l.length : Int) = 0 := by omega
   by_cases ca : 0 ≤ e.n
   ·by_cases cb : e.n ≤ 2147483647
    ·skip
     by_cases zo : e.oper = 0
     ·skip
      by_cases zs : e.s = []
      ·skip
       by_cases za : e.a.length = 0
       ·have za' : (e.a.length : Int) = 0 := by omega
        have ya : e.a = [] := List.length_eq_zero_iff.1 za;simp (disch := omega) only [go_sem, m1, m2, s1, s2, s3, s4, s5, sO, sN, sS, sA, List.length_cons, List.length_nil, k1, clen0', ca, cb, zo, zs, za'];exact DFin.sub (show Sub H _ from (by repeat (first | exact Sub.refl _ | assumption | refine Sub.up ?_ (by assumption) _))) (DFin.refl ⟨by simp [fieldsE, zO, zN, zS, zA, isEmpty_len, k1, clen0, ca, cb, zo, zs, ya], rfl⟩)
       ·have za' : ¬ ((e.a.length : Int) = 0) := by omega
        simp (disch := omega) only [go_sem, m1, m2, s1, s2, s3, s4, s5, sO, sN, sS, sA, List.length_cons, List.length_nil, k1, clen0', ca, cb, zo, zs, za'];exact DFin.sub (show Sub H _ from (by repeat (first | exact Sub.refl _ | assumption | refine Sub.up ?_ (by assumption) _))) (DFin.refl ⟨by simp [fieldsE, zO, zN, zS, zA, isEmpty_len, k1, clen0, ca, cb, zo, zs, za], rfl⟩)
      ·skip
       simp (disch := omega) only [go_sem, m1, m2, s1, s2, s3, s4, s5, sO, sN, sS, sA, List.length_cons, List.length_nil, k1, clen0', ca, cb, zo, zs];exact DFin.sub (show Sub H _ from (by repeat (first | exact Sub.refl _ | assumption | refine Sub.up ?_ (by assumption) _))) (DFin.refl ⟨by simp [fieldsE, zO, zN, zS, zA, isEmpty_len, k1, clen0, ca, cb, zo, zs], rfl⟩)
     ·skip
      simp (disch := omega) only [go_sem, m1, m2, s1, s2, s3, s4, s5, sO, sN, sS, sA, List.length_cons, List.length_nil, k1, clen0', ca, cb, zo];exact DFin.sub (show Sub H _ from (by repeat (first | exact Sub.refl _ | assumption | refine Sub.up ?_ (by assumption) _))) (DFin.refl ⟨by simp [fieldsE, zO, zN, zS, zA, isEmpty_len, k1, clen0, ca, cb, zo], rfl⟩)
    ·simp (disch := omega) only [go_sem, m1, m2, s1, s2, s3, s4, s5, sO, sN, sS, sA, List.length_cons, List.length_nil, k1, clen0', ca, cb];exact DFin.sub (show Sub H _ from (by repeat (first | exact Sub.refl _ | assumption | refine Sub.up ?_ (by assumption) _))) (DFin.refl ⟨by simp [fieldsE, zO, zN, zS, zA, isEmpty_len, k1, clen0, ca, cb], rfl⟩)
   ·simp (disch := omega) only [go_sem, m1, m2, s1, s2, s3, s4, s5, sO, sN, sS, sA, List.length_cons, List.length_nil, k1, clen0', ca];exact DFin.sub (show Sub H _ from (by repeat (first | exact Sub.refl _ | assumption | refine Sub.up ?_ (by assumption) _))) (DFin.refl ⟨by simp [fieldsE, zO, zN, zS, zA, isEmpty_len, k1, clen0, ca], rfl⟩)
  ·have clen0' : ¬ ((e.l.length : Int) = 0) := by omega
   simp (disch := omega) only [go_sem, m1, m2, s1, s2, s3, s4, s5, sO, sN, sS, sA, List.length_cons, List.length_nil, k1, clen0'];exact DFin.sub (show Sub H _ from (by repeat (first | exact Sub.refl _ | assumption | refine Sub.up ?_ (by assumption) _))) (DFin.refl ⟨by simp [fieldsE, zO, zN, zS, zA, isEmpty_len, k1, clen0], rfl⟩)
 by_cases k2 : e.kind = 2
 ·skip
  by_cases clen0 : e.l.length = 0
  ·have clen0' : (e.l.length : Int) = 0 := by omega
   by_cases zo : e.oper = 0
   ·skip
    by_cases zn : e.n = 0
    ·skip
     by_cases zs : e.s = []
     ·skip
      by_cases za : e.a.length = 0
      ·have za' : (e.a.length : Int) = 0 := by omega
       have ya : e.a = [] := List.length_eq_zero_iff.1 za;simp (disch := omega) only [go_sem, m1, m2, s1, s2, s3, s4, s5, sO, sN, sS, sA, List.length_cons, List.length_nil, k2, clen0', zo, zn, zs, za'];exact DFin.sub (show Sub H _ from (by repeat (first | exact Sub.refl _ | assumption | refine Sub.up ?_ (by assumption) _))) (DFin.refl ⟨by simp [fieldsE, zO, zN, zS, zA, isEmpty_len, k2, clen0, zo, zn, zs, ya], rfl⟩)
      ·have za' : ¬ ((e.a.length : Int) = 0) := by omega
       simp (disch := omega) only [go_sem, m1, m2, s1, s2, s3, s4, s5, sO, sN, sS, sA, List.length_cons, List.length_nil, k2, clen0', zo, zn, zs, za'];exact DFin.sub (show Sub H _ from (by repeat (first | exact Sub.refl _ | assumption | refine Sub.up ?_ (by assumption) _))) (DFin.refl ⟨by simp [fieldsE, zO, zN, zS, zA, isEmpty_len, k2, clen0, zo, zn, zs, za], rfl⟩)
     ·skip
      simp (disch := omega) only [go_sem, m1, m2, s1, s2, s3, s4, s5, sO, sN, sS, sA, List.length_cons, List.length_nil, k2, clen0', zo, zn, zs];exact DFin.sub (show Sub H _ from (by repeat (first | exact Sub.refl _ | assumption | refine Sub.up ?_ (by assumption) _))) (DFin.refl ⟨by simp [fieldsE, zO, zN, zS, zA, isEmpty_len, k2, clen0, zo, zn, zs], rfl⟩)
    ·skip
     simp (disch := omega) only [go_sem, m1, m2, s1, s2, s3, s4, s5, sO, sN, sS, sA, List.length_cons, List.length_nil, k2, clen0', zo, zn];exact DFin.sub (show Sub H _ from (by repeat (first | exact Sub.refl _ | assumption | refine Sub.up ?_ (by assumption) _))) (DFin.refl ⟨by simp [fieldsE, zO, zN, zS, zA, isEmpty_len, k2, clen0, zo, zn], rfl⟩)
   ·skip
    simp (disch := omega) only [go_sem, m1, m2, s1, s2, s3, s4, s5, sO, sN, sS, sA, List.length_cons, List.length_nil, k2, clen0', zo];exact DFin.sub (show Sub H _ from (by repeat (first | exact Sub.refl _ | assumption | refine Sub.up ?_ (by assumption) _))) (DFin.refl ⟨by simp [fieldsE, zO, zN, zS, zA, isEmpty_len, k2, clen0, zo], rfl⟩)
  ·have clen0' : ¬ ((e.l.length : Int) = 0) := by omega
   simp (disch := omega) only [go_sem, m1, m2, s1, s2, s3, s4, s5, sO, sN, sS, sA, List.length_cons, List.length_nil, k2, clen0'];exact DFin.sub (show Sub H _ from (by repeat (first | exact Sub.refl _ | assumption | refine Sub.up ?_ (by assumption) _))) (DFin.refl ⟨by simp [fieldsE, zO, zN, zS, zA, isEmpty_len, k2, clen0], rfl⟩)
 by_cases k3 : e.kind = 3
 ·skip
  by_cases clen0 : e.l.length = 0
  ·have clen0' : (e.l.length : Int) = 0 := by omega
   simp (disch := omega) only [go_sem, m1, m2, s1, s2, s3, s4, s5, sO, sN, sS, sA, List.length_cons, List.length_nil, k3, clen0'];refine (name_spec2 hG _ e.s hs).mono ?_;rintro _ H1 ⟨rfl, rfl⟩;cases vname : nameB e.s with
   | true =>
    by_cases zo : e.oper = 0
    ·skip
     by_cases zn : e.n = 0
     ·skip
      by_cases za : e.a.length = 0
      ·have za' : (e.a.length : Int) = 0 := by omega
       have ya : e.a = [] := List.length_eq_zero_iff.1 za;simp (disch := omega) only [go_sem, m1, m2, s1, s2, s3, s4, s5, sO, sN, sS, sA, List.length_cons, List.length_nil, k3, clen0', zo, zn, za'];exact DFin.sub (show Sub H _ from (by repeat (first | exact Sub.refl _ | assumption | refine Sub.up ?_ (by assumption) _))) (DFin.refl ⟨by simp [fieldsE, zO, zN, zS, zA, isEmpty_len, k3, clen0, vname, zo, zn, ya], rfl⟩)
      ·have za' : ¬ ((e.a.length : Int) = 0) := by omega
       simp (disch := omega) only [go_sem, m1, m2, s1, s2, s3, s4, s5, sO, sN, sS, sA, List.length_cons, List.length_nil, k3, clen0', zo, zn, za'];exact DFin.sub (show Sub H _ from (by repeat (first | exact Sub.refl _ | assumption | refine Sub.up ?_ (by assumption) _))) (DFin.refl ⟨by simp [fieldsE, zO, zN, zS, zA, isEmpty_len, k3, clen0, vname, zo, zn, za], rfl⟩)
     ·skip
      simp (disch := omega) only [go_sem, m1, m2, s1, s2, s3, s4, s5, sO, sN, sS, sA, List.length_cons, List.length_nil, k3, clen0', zo, zn];exact DFin.sub (show Sub H _ from (by repeat (first | exact Sub.refl _ | assumption | refine Sub.up ?_ (by assumption) _))) (DFin.refl ⟨by simp [fieldsE, zO, zN, zS, zA, isEmpty_len, k3, clen0, vname, zo, zn], rfl⟩)
    ·skip
     simp (disch := omega) only [go_sem, m1, m2, s1, s2, s3, s4, s5, sO, sN, sS, sA, List.length_cons, List.length_nil, k3, clen0', zo];exact DFin.sub (show Sub H _ from (by repeat (first | exact Sub.refl _ | assumption | refine Sub.up ?_ (by assumption) _))) (DFin.refl ⟨by simp [fieldsE, zO, zN, zS, zA, isEmpty_len, k3, clen0, vname, zo], rfl⟩)
   | false =>
    simp (disch := omega) only [go_sem, m1, m2, s1, s2, s3, s4, s5, sO, sN, sS, sA, List.length_cons, List.length_nil, k3, clen0'];exact DFin.sub (show Sub H _ from (by repeat (first | exact Sub.refl _ | assumption | refine Sub.up ?_ (by assumption) _))) (DFin.refl ⟨by simp [fieldsE, zO, zN, zS, zA, isEmpty_len, k3, clen0, vname], rfl⟩)
  ·have clen0' : ¬ ((e.l.length : Int) = 0) := by omega
   simp (disch := omega) only [go_sem, m1, m2, s1, s2, s3, s4, s5, sO, sN, sS, sA, List.length_cons, List.length_nil, k3, clen0'];exact DFin.sub (show Sub H _ from (by repeat (first | exact Sub.refl _ | assumption | refine Sub.up ?_ (by assumption) _))) (DFin.refl ⟨by simp [fieldsE, zO, zN, zS, zA, isEmpty_len, k3, clen0], rfl⟩)
 by_cases k4 : e.kind = 4
 ·skip
  simp (disch := omega) only [go_sem, m1, m2, s1, s2, s3, s4, s5, sO, sN, sS, sA, List.length_cons, List.length_nil, k4];refine (named_spec G _ e 1 (by decide)).mono ?_;rintro _ H1 ⟨rfl, rfl⟩;cases vnamed1 : namedN e 1 with
  | true =>
   simp (disch := omega) only [go_sem, m1, m2, s1, s2, s3, s4, s5, sO, sN, sS, sA, List.length_cons, List.length_nil, k4];refine (name_spec2 hG _ e.s hs).mono ?_;rintro _ H1 ⟨rfl, rfl⟩;cases vname : nameB e.s with
   | true =>
    by_cases zo : e.oper = 0
    ·skip
     by_cases zn : e.n = 0
     ·skip
      by_cases za : e.a.length = 0
      ·have za' : (e.a.length : Int) = 0 := by omega
       have ya : e.a = [] := List.length_eq_zero_iff.1 za;simp (disch := omega) only [go_sem, m1, m2, s1, s2, s3, s4, s5, sO, sN, sS, sA, List.length_cons, List.length_nil, k4, zo, zn, za'];exact DFin.sub (show Sub H _ from (by repeat (first | exact Sub.refl _ | assumption | refine Sub.up ?_ (by assumption) _))) (DFin.refl ⟨by simp [fieldsE, zO, zN, zS, zA, isEmpty_len, k4, vnamed1, vname, zo, zn, ya], rfl⟩)
      ·have za' : ¬ ((e.a.length : Int) = 0) := by omega
       simp (disch := omega) only [go_sem, m1, m2, s1, s2, s3, s4, s5, sO, sN, sS, sA, List.length_cons, List.length_nil, k4, zo, zn, za'];exact DFin.sub (show Sub H _ from (by repeat (first | exact Sub.refl _ | assumption | refine Sub.up ?_ (by assumption) _))) (DFin.refl ⟨by simp [fieldsE, zO, zN, zS, zA, isEmpty_len, k4, vnamed1, vname, zo, zn, za], rfl⟩)
     ·skip
      simp (disch := omega) only [go_sem, m1, m2, s1, s2, s3, s4, s5, sO, sN, sS, sA, List.length_cons, List.length_nil, k4, zo, zn];exact DFin.sub (show Sub H _ from (by repeat (first | exact Sub.refl _ | assumption | refine Sub.up ?_ (by assumption) _))) (DFin.refl ⟨by simp [fieldsE, zO, zN, zS, zA, isEmpty_len, k4, vnamed1, vname, zo, zn], rfl⟩)
    ·skip
     simp (disch := omega) only [go_sem, m1, m2, s1, s2, s3, s4, s5, sO, sN, sS, sA, List.length_cons, List.length_nil, k4, zo];exact DFin.sub (show Sub H _ from (by repeat (first | exact Sub.refl _ | assumption | refine Sub.up ?_ (by assumption) _))) (DFin.refl ⟨by simp [fieldsE, zO, zN, zS, zA, isEmpty_len, k4, vnamed1, vname, zo], rfl⟩)
   | false =>
    simp (disch := omega) only [go_sem, m1, m2, s1, s2, s3, s4, s5, sO, sN, sS, sA, List.length_cons, List.length_nil, k4];exact DFin.sub (show Sub H _ from (by repeat (first | exact Sub.refl _ | assumption | refine Sub.up ?_ (by assumption) _))) (DFin.refl ⟨by simp [fieldsE, zO, zN, zS, zA, isEmpty_len, k4, vnamed1, vname], rfl⟩)
  | false =>
   simp (disch := omega) only [go_sem, m1, m2, s1, s2, s3, s4, s5, sO, sN, sS, sA, List.length_cons, List.length_nil, k4];exact DFin.sub (show Sub H _ from (by repeat (first | exact Sub.refl _ | assumption | refine Sub.up ?_ (by assumption) _))) (DFin.refl ⟨by simp [fieldsE, zO, zN, zS, zA, isEmpty_len, k4, vnamed1], rfl⟩)
 by_cases k6 : e.kind = 6
 ·skip
  simp (disch := omega) only [go_sem, m1, m2, s1, s2, s3, s4, s5, sO, sN, sS, sA, List.length_cons, List.length_nil, k6];refine (named_spec G _ e 1 (by decide)).mono ?_;rintro _ H1 ⟨rfl, rfl⟩;cases vnamed1 : namedN e 1 with
  | true =>
   simp (disch := omega) only [go_sem, m1, m2, s1, s2, s3, s4, s5, sO, sN, sS, sA, List.length_cons, List.length_nil, k6];refine (name_spec2 hG _ e.s hs).mono ?_;rintro _ H1 ⟨rfl, rfl⟩;cases vname : nameB e.s with
   | true =>
    by_cases zo : e.oper = 0
    ·skip
     by_cases zn : e.n = 0
     ·skip
      by_cases za : e.a.length = 0
      ·have za' : (e.a.length : Int) = 0 := by omega
       have ya : e.a = [] := List.length_eq_zero_iff.1 za;simp (disch := omega) only [go_sem, m1, m2, s1, s2, s3, s4, s5, sO, sN, sS, sA, List.length_cons, List.length_nil, k6, zo, zn, za'];exact DFin.sub (show Sub H _ from (by repeat (first | exact Sub.refl _ | assumption | refine Sub.up ?_ (by assumption) _))) (DFin.refl ⟨by simp [fieldsE, zO, zN, zS, zA, isEmpty_len, k6, vnamed1, vname, zo, zn, ya], rfl⟩)
      ·have za' : ¬ ((e.a.length : Int) = 0) := by omega
       simp (disch := omega) only [go_sem, m1, m2, s1, s2, s3, s4, s5, sO, sN, sS, sA, List.length_cons, List.length_nil, k6, zo, zn, za'];exact DFin.sub (show Sub H _ from (by repeat (first | exact Sub.refl _ | assumption | refine Sub.up ?_ (by assumption) _))) (DFin.refl ⟨by simp [fieldsE, zO, zN, zS, zA, isEmpty_len, k6, vnamed1, vname, zo, zn, za], rfl⟩)
     ·skip
      simp (disch := omega) only [go_sem, m1, m2, s1, s2, s3, s4, s5, sO, sN, sS, sA, List.length_cons, List.length_nil, k6, zo, zn];exact DFin.sub (show Sub H _ from (by repeat (first | exact Sub.refl _ | assumption | refine Sub.up ?_ (by assumption) _))) (DFin.refl ⟨by simp [fieldsE, zO, zN, zS, zA, isEmpty_len, k6, vnamed1, vname, zo, zn], rfl⟩)
    ·skip
     simp (disch := omega) only [go_sem, m1, m2, s1, s2, s3, s4, s5, sO, sN, sS, sA, List.length_cons, List.length_nil, k6, zo];exact DFin.sub (show Sub H _ from (by repeat (first | exact Sub.refl _ | assumption | refine Sub.up ?_ (by assumption) _))) (DFin.refl ⟨by simp [fieldsE, zO, zN, zS, zA, isEmpty_len, k6, vnamed1, vname, zo], rfl⟩)
   | false =>
    simp (disch := omega) only [go_sem, m1, m2, s1, s2, s3, s4, s5, sO, sN, sS, sA, List.length_cons, List.length_nil, k6];exact DFin.sub (show Sub H _ from (by repeat (first | exact Sub.refl _ | assumption | refine Sub.up ?_ (by assumption) _))) (DFin.refl ⟨by simp [fieldsE, zO, zN, zS, zA, isEmpty_len, k6, vnamed1, vname], rfl⟩)
  | false =>
   simp (disch := omega) only [go_sem, m1, m2, s1, s2, s3, s4, s5, sO, sN, sS, sA, List.length_cons, List.length_nil, k6];exact DFin.sub (show Sub H _ from (by repeat (first | exact Sub.refl _ | assumption | refine Sub.up ?_ (by assumption) _))) (DFin.refl ⟨by simp [fieldsE, zO, zN, zS, zA, isEmpty_len, k6, vnamed1], rfl⟩)
 by_cases k5 : e.kind = 5
 ·skip
  simp (disch := omega) only [go_sem, m1, m2, s1, s2, s3, s4, s5, sO, sN, sS, sA, List.length_cons, List.length_nil, k5];refine (named_spec G _ e 1 (by decide)).mono ?_;rintro _ H1 ⟨rfl, rfl⟩;cases vnamed1 : namedN e 1 with
  | true =>
   by_cases zo : e.oper = 0
   ·skip
    by_cases zn : e.n = 0
    ·skip
     by_cases zs : e.s = []
     ·skip
      by_cases za : e.a.length = 0
      ·have za' : (e.a.length : Int) = 0 := by omega
       have ya : e.a = [] := List.length_eq_zero_iff.1 za;simp (disch := omega) only [go_sem, m1, m2, s1, s2, s3, s4, s5, sO, sN, sS, sA, List.length_cons, List.length_nil, k5, zo, zn, zs, za'];exact DFin.sub (show Sub H _ from (by repeat (first | exact Sub.refl _ | assumption | refine Sub.up ?_ (by assumption) _))) (DFin.refl ⟨by simp [fieldsE, zO, zN, zS, zA, isEmpty_len, k5, vnamed1, zo, zn, zs, ya], rfl⟩)
      ·have za' : ¬ ((e.a.length : Int) = 0) := by omega
       simp (disch := omega) only [go_sem, m1, m2, s1, s2, s3, s4, s5, sO, sN, sS, sA, List.length_cons, List.length_nil, k5, zo, zn, zs, za'];exact DFin.sub (show Sub H _ from (by repeat (first | exact Sub.refl _ | assumption | refine Sub.up ?_ (by assumption) _))) (DFin.refl ⟨by simp [fieldsE, zO, zN, zS, zA, isEmpty_len, k5, vnamed1, zo, zn, zs, za], rfl⟩)
     ·skip
      simp (disch := omega) only [go_sem, m1, m2, s1, s2, s3, s4, s5, sO, sN, sS, sA, List.length_cons, List.length_nil, k5, zo, zn, zs];exact DFin.sub (show Sub H _ from (by repeat (first | exact Sub.refl _ | assumption | refine Sub.up ?_ (by assumption) _))) (DFin.refl ⟨by simp [fieldsE, zO, zN, zS, zA, isEmpty_len, k5, vnamed1, zo, zn, zs], rfl⟩)
    ·skip
     simp (disch := omega) only [go_sem, m1, m2, s1, s2, s3, s4, s5, sO, sN, sS, sA, List.length_cons, List.length_nil, k5, zo, zn];exact DFin.sub (show Sub H _ from (by repeat (first | exact Sub.refl _ | assumption | refine Sub.up ?_ (by assumption) _))) (DFin.refl ⟨by simp [fieldsE, zO, zN, zS, zA, isEmpty_len, k5, vnamed1, zo, zn], rfl⟩)
   ·skip
    simp (disch := omega) only [go_sem, m1, m2, s1, s2, s3, s4, s5, sO, sN, sS, sA, List.length_cons, List.length_nil, k5, zo];exact DFin.sub (show Sub H _ from (by repeat (first | exact Sub.refl _ | assumption | refine Sub.up ?_ (by assumption) _))) (DFin.refl ⟨by simp [fieldsE, zO, zN, zS, zA, isEmpty_len, k5, vnamed1, zo], rfl⟩)
  | false =>
   simp (disch := omega) only [go_sem, m1, m2, s1, s2, s3, s4, s5, sO, sN, sS, sA, List.length_cons, List.length_nil, k5];exact DFin.sub (show Sub H _ from (by repeat (first | exact Sub.refl _ | assumption | refine Sub.up ?_ (by assumption) _))) (DFin.refl ⟨by simp [fieldsE, zO, zN, zS, zA, isEmpty_len, k5, vnamed1], rfl⟩)
 by_cases k7 : e.kind = 7
 ·skip
  simp (disch := omega) only [go_sem, m1, m2, s1, s2, s3, s4, s5, sO, sN, sS, sA, List.length_cons, List.length_nil, k7];refine (named_spec G _ e 1 (by decide)).mono ?_;rintro _ H1 ⟨rfl, rfl⟩;cases vnamed1 : namedN e 1 with
  | true =>
   simp (disch := omega) only [go_sem, m1, m2, s1, s2, s3, s4, s5, sO, sN, sS, sA, List.length_cons, List.length_nil, k7];refine (arguments_spec G _ e.a (by omega)).mono ?_;rintro _ H1 ⟨rfl, rfl⟩;cases vargs : argsOk e.a with
   | true =>
    by_cases zo : e.oper = 0
    ·skip
     by_cases zn : e.n = 0
     ·skip
      by_cases zs : e.s = []
      ·skip
       simp (disch := omega) only [go_sem, m1, m2, s1, s2, s3, s4, s5, sO, sN, sS, sA, List.length_cons, List.length_nil, k7, zo, zn, zs];exact DFin.sub (show Sub H _ from (by repeat (first | exact Sub.refl _ | assumption | refine Sub.up ?_ (by assumption) _))) (DFin.refl ⟨by simp [fieldsE, zO, zN, zS, zA, isEmpty_len, k7, vnamed1, vargs, zo, zn, zs], rfl⟩)
      ·skip
       simp (disch := omega) only [go_sem, m1, m2, s1, s2, s3, s4, s5, sO, sN, sS, sA, List.length_cons, List.length_nil, k7, zo, zn, zs];exact DFin.sub (show Sub H _ from (by repeat (first | exact Sub.refl _ | assumption | refine Sub.up ?_ (by assumption) _))) (DFin.refl ⟨by simp [fieldsE, zO, zN, zS, zA, isEmpty_len, k7, vnamed1, vargs, zo, zn, zs], rfl⟩)
     ·skip
      simp (disch := omega) only [go_sem, m1, m2, s1, s2, s3, s4, s5, sO, sN, sS, sA, List.length_cons, List.length_nil, k7, zo, zn];exact DFin.sub (show Sub H _ from (by repeat (first | exact Sub.refl _ | assumption | refine Sub.up ?_ (by assumption) _))) (DFin.refl ⟨by simp [fieldsE, zO, zN, zS, zA, isEmpty_len, k7, vnamed1, vargs, zo, zn], rfl⟩)
    ·skip
     simp (disch := omega) only [go_sem, m1, m2, s1, s2, s3, s4, s5, sO, sN, sS, sA, List.length_cons, List.length_nil, k7, zo];exact DFin.sub (show Sub H _ from (by repeat (first | exact Sub.refl _ | assumption | refine Sub.up ?_ (by assumption) _))) (DFin.refl ⟨by simp [fieldsE, zO, zN, zS, zA, isEmpty_len, k7, vnamed1, vargs, zo], rfl⟩)
   | false =>
    simp (disch := omega) only [go_sem, m1, m2, s1, s2, s3, s4, s5, sO, sN, sS, sA, List.length_cons, List.length_nil, k7];exact DFin.sub (show Sub H _ from (by repeat (first | exact Sub.refl _ | assumption | refine Sub.up ?_ (by assumption) _))) (DFin.refl ⟨by simp [fieldsE, zO, zN, zS, zA, isEmpty_len, k7, vnamed1, vargs], rfl⟩)
  | false =>
   simp (disch := omega) only [go_sem, m1, m2, s1, s2, s3, s4, s5, sO, sN, sS, sA, List.length_cons, List.length_nil, k7];exact DFin.sub (show Sub H _ from (by repeat (first | exact Sub.refl _ | assumption | refine Sub.up ?_ (by assumption) _))) (DFin.refl ⟨by simp [fieldsE, zO, zN, zS, zA, isEmpty_len, k7, vnamed1], rfl⟩)
 by_cases k8 : e.kind = 8
 ·skip
  simp (disch := omega) only [go_sem, m1, m2, s1, s2, s3, s4, s5, sO, sN, sS, sA, List.length_cons, List.length_nil, k8];refine (named_spec G _ e 2 (by decide)).mono ?_;rintro _ H1 ⟨rfl, rfl⟩;cases vnamed2 : namedN e 2 with
  | true =>
   by_cases zo : e.oper = 0
   ·skip
    by_cases zn : e.n = 0
    ·skip
     by_cases zs : e.s = []
     ·skip
      by_cases za : e.a.length = 0
      ·have za' : (e.a.length : Int) = 0 := by omega
       have ya : e.a = [] := List.length_eq_zero_iff.1 za;simp (disch := omega) only [go_sem, m1, m2, s1, s2, s3, s4, s5, sO, sN, sS, sA, List.length_cons, List.length_nil, k8, zo, zn, zs, za'];exact DFin.sub (show Sub H _ from (by repeat (first | exact Sub.refl _ | assumption | refine Sub.up ?_ (by assumption) _))) (DFin.refl ⟨by simp [fieldsE, zO, zN, zS, zA, isEmpty_len, k8, vnamed2, zo, zn, zs, ya], rfl⟩)
      ·have za' : ¬ ((e.a.length : Int) = 0) := by omega
       simp (disch := omega) only [go_sem, m1, m2, s1, s2, s3, s4, s5, sO, sN, sS, sA, List.length_cons, List.length_nil, k8, zo, zn, zs, za'];exact DFin.sub (show Sub H _ from (by repeat (first | exact Sub.refl _ | assumption | refine Sub.up ?_ (by assumption) _))) (DFin.refl ⟨by simp [fieldsE, zO, zN, zS, zA, isEmpty_len, k8, vnamed2, zo, zn, zs, za], rfl⟩)
     ·skip
      simp (disch := omega) only [go_sem, m1, m2, s1, s2, s3, s4, s5, sO, sN, sS, sA, List.length_cons, List.length_nil, k8, zo, zn, zs];exact DFin.sub (show Sub H _ from (by repeat (first | exact Sub.refl _ | assumption | refine Sub.up ?_ (by assumption) _))) (DFin.refl ⟨by simp [fieldsE, zO, zN, zS, zA, isEmpty_len, k8, vnamed2, zo, zn, zs], rfl⟩)
    ·skip
     simp (disch := omega) only [go_sem, m1, m2, s1, s2, s3, s4, s5, sO, sN, sS, sA, List.length_cons, List.length_nil, k8, zo, zn];exact DFin.sub (show Sub H _ from (by repeat (first | exact Sub.refl _ | assumption | refine Sub.up ?_ (by assumption) _))) (DFin.refl ⟨by simp [fieldsE, zO, zN, zS, zA, isEmpty_len, k8, vnamed2, zo, zn], rfl⟩)
   ·skip
    simp (disch := omega) only [go_sem, m1, m2, s1, s2, s3, s4, s5, sO, sN, sS, sA, List.length_cons, List.length_nil, k8, zo];exact DFin.sub (show Sub H _ from (by repeat (first | exact Sub.refl _ | assumption | refine Sub.up ?_ (by assumption) _))) (DFin.refl ⟨by simp [fieldsE, zO, zN, zS, zA, isEmpty_len, k8, vnamed2, zo], rfl⟩)
  | false =>
   simp (disch := omega) only [go_sem, m1, m2, s1, s2, s3, s4, s5, sO, sN, sS, sA, List.length_cons, List.length_nil, k8];exact DFin.sub (show Sub H _ from (by repeat (first | exact Sub.refl _ | assumption | refine Sub.up ?_ (by assumption) _))) (DFin.refl ⟨by simp [fieldsE, zO, zN, zS, zA, isEmpty_len, k8, vnamed2], rfl⟩)
 by_cases k9 : e.kind = 9
 ·skip
  by_cases clen0 : e.l.length = 0
  ·have clen0' : (e.l.length : Int) = 0 := by omega
   simp (disch := omega) only [go_sem, m1, m2, s1, s2, s3, s4, s5, sO, sN, sS, sA, List.length_cons, List.length_nil, k9, clen0'];refine (associations_spec G _ e.a (by omega) hac).mono ?_;rintro _ H1 ⟨rfl, rfl⟩;cases vassocs : assocsOk e.a with
   | true =>
    by_cases zo : e.oper = 0
    ·skip
     by_cases zn : e.n = 0
     ·skip
      by_cases zs : e.s = []
      ·skip
       simp (disch := omega) only [go_sem, m1, m2, s1, s2, s3, s4, s5, sO, sN, sS, sA, List.length_cons, List.length_nil, k9, clen0', zo, zn, zs];exact DFin.sub (show Sub H _ from (by repeat (first | exact Sub.refl _ | assumption | refine Sub.up ?_ (by assumption) _))) (DFin.refl ⟨by simp [fieldsE, zO, zN, zS, zA, isEmpty_len, k9, clen0, vassocs, zo, zn, zs], rfl⟩)
      ·skip
       simp (disch := omega) only [go_sem, m1, m2, s1, s2, s3, s4, s5, sO, sN, sS, sA, List.length_cons, List.length_nil, k9, clen0', zo, zn, zs];exact DFin.sub (show Sub H _ from (by repeat (first | exact Sub.refl _ | assumption | refine Sub.up ?_ (by assumption) _))) (DFin.refl ⟨by simp [fieldsE, zO, zN, zS, zA, isEmpty_len, k9, clen0, vassocs, zo, zn, zs], rfl⟩)
     ·skip
      simp (disch := omega) only [go_sem, m1, m2, s1, s2, s3, s4, s5, sO, sN, sS, sA, List.length_cons, List.length_nil, k9, clen0', zo, zn];exact DFin.sub (show Sub H _ from (by repeat (first | exact Sub.refl _ | assumption | refine Sub.up ?_ (by assumption) _))) (DFin.refl ⟨by simp [fieldsE, zO, zN, zS, zA, isEmpty_len, k9, clen0, vassocs, zo, zn], rfl⟩)
    ·skip
     simp (disch := omega) only [go_sem, m1, m2, s1, s2, s3, s4, s5, sO, sN, sS, sA, List.length_cons, List.length_nil, k9, clen0', zo];exact DFin.sub (show Sub H _ from (by repeat (first | exact Sub.refl _ | assumption | refine Sub.up ?_ (by assumption) _))) (DFin.refl ⟨by simp [fieldsE, zO, zN, zS, zA, isEmpty_len, k9, clen0, vassocs, zo], rfl⟩)
   | false =>
    simp (disch := omega) only [go_sem, m1, m2, s1, s2, s3, s4, s5, sO, sN, sS, sA, List.length_cons, List.length_nil, k9, clen0'];exact DFin.sub (show Sub H _ from (by repeat (first | exact Sub.refl _ | assumption | refine Sub.up ?_ (by assumption) _))) (DFin.refl ⟨by simp [fieldsE, zO, zN, zS, zA, isEmpty_len, k9, clen0, vassocs], rfl⟩)
  ·have clen0' : ¬ ((e.l.length : Int) = 0) := by omega
   simp (disch := omega) only [go_sem, m1, m2, s1, s2, s3, s4, s5, sO, sN, sS, sA, List.length_cons, List.length_nil, k9, clen0'];exact DFin.sub (show Sub H _ from (by repeat (first | exact Sub.refl _ | assumption | refine Sub.up ?_ (by assumption) _))) (DFin.refl ⟨by simp [fieldsE, zO, zN, zS, zA, isEmpty_len, k9, clen0], rfl⟩)
 by_cases k10 : e.kind = 10
 ·skip
  by_cases clen3 : e.l.length = 3
  ·have clen3' : (e.l.length : Int) = 3 := by omega
   by_cases zo : e.oper = 0
   ·skip
    by_cases zn : e.n = 0
    ·skip
     by_cases zs : e.s = []
     ·skip
      by_cases za : e.a.length = 0
      ·have za' : (e.a.length : Int) = 0 := by omega
       have ya : e.a = [] := List.length_eq_zero_iff.1 za;simp (disch := omega) only [go_sem, m1, m2, s1, s2, s3, s4, s5, sO, sN, sS, sA, List.length_cons, List.length_nil, k10, clen3', zo, zn, zs, za'];exact DFin.sub (show Sub H _ from (by repeat (first | exact Sub.refl _ | assumption | refine Sub.up ?_ (by assumption) _))) (DFin.refl ⟨by simp [fieldsE, zO, zN, zS, zA, isEmpty_len, k10, clen3, zo, zn, zs, ya], rfl⟩)
      ·have za' : ¬ ((e.a.length : Int) = 0) := by omega
       simp (disch := omega) only [go_sem, m1, m2, s1, s2, s3, s4, s5, sO, sN, sS, sA, List.length_cons, List.length_nil, k10, clen3', zo, zn, zs, za'];exact DFin.sub (show Sub H _ from (by repeat (first | exact Sub.refl _ | assumption | refine Sub.up ?_ (by assumption) _))) (DFin.refl ⟨by simp [fieldsE, zO, zN, zS, zA, isEmpty_len, k10, clen3, zo, zn, zs, za], rfl⟩)
     ·skip
      simp (disch := omega) only [go_sem, m1, m2, s1, s2, s3, s4, s5, sO, sN, sS, sA, List.length_cons, List.length_nil, k10, clen3', zo, zn, zs];exact DFin.sub (show Sub H _ from (by repeat (first | exact Sub.refl _ | assumption | refine Sub.up ?_ (by assumption) _))) (DFin.refl ⟨by simp [fieldsE, zO, zN, zS, zA, isEmpty_len, k10, clen3, zo, zn, zs], rfl⟩)
    ·skip
     simp (disch := omega) only [go_sem, m1, m2, s1, s2, s3, s4, s5, sO, sN, sS, sA, List.length_cons, List.length_nil, k10, clen3', zo, zn];exact DFin.sub (show Sub H _ from (by repeat (first | exact Sub.refl _ | assumption | refine Sub.up ?_ (by assumption) _))) (DFin.refl ⟨by simp [fieldsE, zO, zN, zS, zA, isEmpty_len, k10, clen3, zo, zn], rfl⟩)
   ·skip
    simp (disch := omega) only [go_sem, m1, m2, s1, s2, s3, s4, s5, sO, sN, sS, sA, List.length_cons, List.length_nil, k10, clen3', zo];exact DFin.sub (show Sub H _ from (by repeat (first | exact Sub.refl _ | assumption | refine Sub.up ?_ (by assumption) _))) (DFin.refl ⟨by simp [fieldsE, zO, zN, zS, zA, isEmpty_len, k10, clen3, zo], rfl⟩)
  ·have clen3' : ¬ ((e.l.length : Int) = 3) := by omega
   simp (disch := omega) only [go_sem, m1, m2, s1, s2, s3, s4, s5, sO, sN, sS, sA, List.length_cons, List.length_nil, k10, clen3'];exact DFin.sub (show Sub H _ from (by repeat (first | exact Sub.refl _ | assumption | refine Sub.up ?_ (by assumption) _))) (DFin.refl ⟨by simp [fieldsE, zO, zN, zS, zA, isEmpty_len, k10, clen3], rfl⟩)
 by_cases k11 : e.kind = 11
 ·skip
  by_cases clen1 : e.l.length = 1
  ·have clen1' : (e.l.length : Int) = 1 := by omega
   by_cases ca : 18 ≤ e.oper
   ·by_cases cb : e.oper ≤ 21
    ·skip
     by_cases zn : e.n = 0
     ·skip
      by_cases zs : e.s = []
      ·skip
       by_cases za : e.a.length = 0
       ·have za' : (e.a.length : Int) = 0 := by omega
        have ya : e.a = [] := List.length_eq_zero_iff.1 za;simp (disch := omega) only [go_sem, m1, m2, s1, s2, s3, s4, s5, sO, sN, sS, sA, List.length_cons, List.length_nil, k11, clen1', ca, cb, zn, zs, za'];exact DFin.sub (show Sub H _ from (by repeat (first | exact Sub.refl _ | assumption | refine Sub.up ?_ (by assumption) _))) (DFin.refl ⟨by simp [fieldsE, zO, zN, zS, zA, isEmpty_len, k11, clen1, ca, cb, zn, zs, ya], rfl⟩)
       ·have za' : ¬ ((e.a.length : Int) = 0) := by omega
        simp (disch := omega) only [go_sem, m1, m2, s1, s2, s3, s4, s5, sO, sN, sS, sA, List.length_cons, List.length_nil, k11, clen1', ca, cb, zn, zs, za'];exact DFin.sub (show Sub H _ from (by repeat (first | exact Sub.refl _ | assumption | refine Sub.up ?_ (by assumption) _))) (DFin.refl ⟨by simp [fieldsE, zO, zN, zS, zA, isEmpty_len, k11, clen1, ca, cb, zn, zs, za], rfl⟩)
      ·skip
       simp (disch := omega) only [go_sem, m1, m2, s1, s2, s3, s4, s5, sO, sN, sS, sA, List.length_cons, List.length_nil, k11, clen1', ca, cb, zn, zs];exact DFin.sub (show Sub H _ from (by repeat (first | exact Sub.refl _ | assumption | refine Sub.up ?_ (by assumption) _))) (DFin.refl ⟨by simp [fieldsE, zO, zN, zS, zA, isEmpty_len, k11, clen1, ca, cb, zn, zs], rfl⟩)
     ·skip
      simp (disch := omega) only [go_sem, m1, m2, s1, s2, s3, s4, s5, sO, sN, sS, sA, List.length_cons, List.length_nil, k11, clen1', ca, cb, zn];exact DFin.sub (show Sub H _ from (by repeat (first | exact Sub.refl _ | assumption | refine Sub.up ?_ (by assumption) _))) (DFin.refl ⟨by simp [fieldsE, zO, zN, zS, zA, isEmpty_len, k11, clen1, ca, cb, zn], rfl⟩)
    ·simp (disch := omega) only [go_sem, m1, m2, s1, s2, s3, s4, s5, sO, sN, sS, sA, List.length_cons, List.length_nil, k11, clen1', ca, cb];exact DFin.sub (show Sub H _ from (by repeat (first | exact Sub.refl _ | assumption | refine Sub.up ?_ (by assumption) _))) (DFin.refl ⟨by simp [fieldsE, zO, zN, zS, zA, isEmpty_len, k11, clen1, ca, cb], rfl⟩)
   ·simp (disch := omega) only [go_sem, m1, m2, s1, s2, s3, s4, s5, sO, sN, sS, sA, List.length_cons, List.length_nil, k11, clen1', ca];exact DFin.sub (show Sub H _ from (by repeat (first | exact Sub.refl _ | assumption | refine Sub.up ?_ (by assumption) _))) (DFin.refl ⟨by simp [fieldsE, zO, zN, zS, zA, isEmpty_len, k11, clen1, ca], rfl⟩)
  ·have clen1' : ¬ ((e.l.length : Int) = 1) := by omega
   simp (disch := omega) only [go_sem, m1, m2, s1, s2, s3, s4, s5, sO, sN, sS, sA, List.length_cons, List.length_nil, k11, clen1'];exact DFin.sub (show Sub H _ from (by repeat (first | exact Sub.refl _ | assumption | refine Sub.up ?_ (by assumption) _))) (DFin.refl ⟨by simp [fieldsE, zO, zN, zS, zA, isEmpty_len, k11, clen1], rfl⟩)
 by_cases k12 : e.kind = 12
 ·skip
  by_cases clen2 : e.l.length = 2
  ·have clen2' : (e.l.length : Int) = 2 := by omega
   by_cases ca : 1 ≤ e.oper
   ·by_cases cb : e.oper ≤ 17
    ·skip
     by_cases zn : e.n = 0
     ·skip
      by_cases zs : e.s = []
      ·skip
       by_cases za : e.a.length = 0
       ·have za' : (e.a.length : Int) = 0 := by omega
        have ya : e.a = [] := List.length_eq_zero_iff.1 za;simp (disch := omega) only [go_sem, m1, m2, s1, s2, s3, s4, s5, sO, sN, sS, sA, List.length_cons, List.length_nil, k12, clen2', ca, cb, zn, zs, za'];exact DFin.sub (show Sub H _ from (by repeat (first | exact Sub.refl _ | assumption | refine Sub.up ?_ (by assumption) _))) (DFin.refl ⟨by simp [fieldsE, zO, zN, zS, zA, isEmpty_len, k12, clen2, ca, cb, zn, zs, ya], rfl⟩)
       ·have za' : ¬ ((e.a.length : Int) = 0) := by omega
        simp (disch := omega) only [go_sem, m1, m2, s1, s2, s3, s4, s5, sO, sN, sS, sA, List.length_cons, List.length_nil, k12, clen2', ca, cb, zn, zs, za'];exact DFin.sub (show Sub H _ from (by repeat (first | exact Sub.refl _ | assumption | refine Sub.up ?_ (by assumption) _))) (DFin.refl ⟨by simp [fieldsE, zO, zN, zS, zA, isEmpty_len, k12, clen2, ca, cb, zn, zs, za], rfl⟩)
      ·skip
       simp (disch := omega) only [go_sem, m1, m2, s1, s2, s3, s4, s5, sO, sN, sS, sA, List.length_cons, List.length_nil, k12, clen2', ca, cb, zn, zs];exact DFin.sub (show Sub H _ from (by repeat (first | exact Sub.refl _ | assumption | refine Sub.up ?_ (by assumption) _))) (DFin.refl ⟨by simp [fieldsE, zO, zN, zS, zA, isEmpty_len, k12, clen2, ca, cb, zn, zs], rfl⟩)
     ·skip
      simp (disch := omega) only [go_sem, m1, m2, s1, s2, s3, s4, s5, sO, sN, sS, sA, List.length_cons, List.length_nil, k12, clen2', ca, cb, zn];exact DFin.sub (show Sub H _ from (by repeat (first | exact Sub.refl _ | assumption | refine Sub.up ?_ (by assumption) _))) (DFin.refl ⟨by simp [fieldsE, zO, zN, zS, zA, isEmpty_len, k12, clen2, ca, cb, zn], rfl⟩)
    ·simp (disch := omega) only [go_sem, m1, m2, s1, s2, s3, s4, s5, sO, sN, sS, sA, List.length_cons, List.length_nil, k12, clen2', ca, cb];exact DFin.sub (show Sub H _ from (by repeat (first | exact Sub.refl _ | assumption | refine Sub.up ?_ (by assumption) _))) (DFin.refl ⟨by simp [fieldsE, zO, zN, zS, zA, isEmpty_len, k12, clen2, ca, cb], rfl⟩)
   ·simp (disch := omega) only [go_sem, m1, m2, s1, s2, s3, s4, s5, sO, sN, sS, sA, List.length_cons, List.length_nil, k12, clen2', ca];exact DFin.sub (show Sub H _ from (by repeat (first | exact Sub.refl _ | assumption | refine Sub.up ?_ (by assumption) _))) (DFin.refl ⟨by simp [fieldsE, zO, zN, zS, zA, isEmpty_len, k12, clen2, ca], rfl⟩)
  ·have clen2' : ¬ ((e.l.length : Int) = 2) := by omega
   simp (disch := omega) only [go_sem, m1, m2, s1, s2, s3, s4, s5, sO, sN, sS, sA, List.length_cons, List.length_nil, k12, clen2'];exact DFin.sub (show Sub H _ from (by repeat (first | exact Sub.refl _ | assumption | refine Sub.up ?_ (by assumption) _))) (DFin.refl ⟨by simp [fieldsE, zO, zN, zS, zA, isEmpty_len, k12, clen2], rfl⟩)
 by_cases k13 : e.kind = 13
 ·skip
  by_cases c3 : e.l.length = 3
  ·have c3' : (e.l.length : Int) = 3 := by omega
   by_cases zo : e.oper = 0
   ·skip
    by_cases zn : e.n = 0
    ·skip
     by_cases zs : e.s = []
     ·skip
      by_cases za : e.a.length = 0
      ·have za' : (e.a.length : Int) = 0 := by omega
       have ya : e.a = [] := List.length_eq_zero_iff.1 za;simp (disch := omega) only [go_sem, m1, m2, s1, s2, s3, s4, s5, sO, sN, sS, sA, List.length_cons, List.length_nil, k13, c3', zo, zn, zs, za'];exact DFin.sub (show Sub H _ from (by repeat (first | exact Sub.refl _ | assumption | refine Sub.up ?_ (by assumption) _))) (DFin.refl ⟨by simp [fieldsE, zO, zN, zS, zA, isEmpty_len, k13, c3, zo, zn, zs, ya], rfl⟩)
      ·have za' : ¬ ((e.a.length : Int) = 0) := by omega
       simp (disch := omega) only [go_sem, m1, m2, s1, s2, s3, s4, s5, sO, sN, sS, sA, List.length_cons, List.length_nil, k13, c3', zo, zn, zs, za'];exact DFin.sub (show Sub H _ from (by repeat (first | exact Sub.refl _ | assumption | refine Sub.up ?_ (by assumption) _))) (DFin.refl ⟨by simp [fieldsE, zO, zN, zS, zA, isEmpty_len, k13, c3, zo, zn, zs, za], rfl⟩)
     ·skip
      simp (disch := omega) only [go_sem, m1, m2, s1, s2, s3, s4, s5, sO, sN, sS, sA, List.length_cons, List.length_nil, k13, c3', zo, zn, zs];exact DFin.sub (show Sub H _ from (by repeat (first | exact Sub.refl _ | assumption | refine Sub.up ?_ (by assumption) _))) (DFin.refl ⟨by simp [fieldsE, zO, zN, zS, zA, isEmpty_len, k13, c3, zo, zn, zs], rfl⟩)
    ·skip
     simp (disch := omega) only [go_sem, m1, m2, s1, s2, s3, s4, s5, sO, sN, sS, sA, List.length_cons, List.length_nil, k13, c3', zo, zn];exact DFin.sub (show Sub H _ from (by repeat (first | exact Sub.refl _ | assumption | refine Sub.up ?_ (by assumption) _))) (DFin.refl ⟨by simp [fieldsE, zO, zN, zS, zA, isEmpty_len, k13, c3, zo, zn], rfl⟩)
   ·skip
    simp (disch := omega) only [go_sem, m1, m2, s1, s2, s3, s4, s5, sO, sN, sS, sA, List.length_cons, List.length_nil, k13, c3', zo];exact DFin.sub (show Sub H _ from (by repeat (first | exact Sub.refl _ | assumption | refine Sub.up ?_ (by assumption) _))) (DFin.refl ⟨by simp [fieldsE, zO, zN, zS, zA, isEmpty_len, k13, c3, zo], rfl⟩)
  ·have c3' : ¬ (e.l.length : Int) = 3 := by omega
   by_cases c2 : e.l.length = 2
   ·have c2' : (e.l.length : Int) = 2 := by omega
    have hp1 : 1 < e.l.length := by omega
    have hg := flat_el dEx_len e.l 1 hp1;have hgd : e.l.getD 1 ex0 = e.l[1] := by rw [List.getD, List.getElem?_eq_getElem hp1]; rfl
    rw [Nat.one_mul] at hg;simp (disch := omega) only [go_sem, m1, m2, s1, s2, s3, s4, s5, sO, sN, sS, sA, List.length_cons, List.length_nil, k13, c3', c2', hg, hfl];refine (namedE_spec G _ e.l[1]).mono ?_;rintro _ H1 ⟨rfl, rfl⟩;cases ct : namedE e.l[1] with
    | true =>
     by_cases zo : e.oper = 0
     ·skip
      by_cases zn : e.n = 0
      ·skip
       by_cases zs : e.s = []
       ·skip
        by_cases za : e.a.length = 0
        ·have za' : (e.a.length : Int) = 0 := by omega
         have ya : e.a = [] := List.length_eq_zero_iff.1 za;simp (disch := omega) only [go_sem, m1, m2, s1, s2, s3, s4, s5, sO, sN, sS, sA, List.length_cons, List.length_nil, k13, c3', c2', zo, zn, zs, za'];exact DFin.sub (show Sub H _ from (by repeat (first | exact Sub.refl _ | assumption | refine Sub.up ?_ (by assumption) _))) (DFin.refl ⟨by simp [fieldsE, zO, zN, zS, zA, isEmpty_len, k13, c3, c2, hgd, ct, zo, zn, zs, ya], rfl⟩)
        ·have za' : ¬ ((e.a.length : Int) = 0) := by omega
         simp (disch := omega) only [go_sem, m1, m2, s1, s2, s3, s4, s5, sO, sN, sS, sA, List.length_cons, List.length_nil, k13, c3', c2', zo, zn, zs, za'];exact DFin.sub (show Sub H _ from (by repeat (first | exact Sub.refl _ | assumption | refine Sub.up ?_ (by assumption) _))) (DFin.refl ⟨by simp [fieldsE, zO, zN, zS, zA, isEmpty_len, k13, c3, c2, hgd, ct, zo, zn, zs, za], rfl⟩)
       ·skip
        simp (disch := omega) only [go_sem, m1, m2, s1, s2, s3, s4, s5, sO, sN, sS, sA, List.length_cons, List.length_nil, k13, c3', c2', zo, zn, zs];exact DFin.sub (show Sub H _ from (by repeat (first | exact Sub.refl _ | assumption | refine Sub.up ?_ (by assumption) _))) (DFin.refl ⟨by simp [fieldsE, zO, zN, zS, zA, isEmpty_len, k13, c3, c2, hgd, ct, zo, zn, zs], rfl⟩)
      ·skip
       simp (disch := omega) only [go_sem, m1, m2, s1, s2, s3, s4, s5, sO, sN, sS, sA, List.length_cons, List.length_nil, k13, c3', c2', zo, zn];exact DFin.sub (show Sub H _ from (by repeat (first | exact Sub.refl _ | assumption | refine Sub.up ?_ (by assumption) _))) (DFin.refl ⟨by simp [fieldsE, zO, zN, zS, zA, isEmpty_len, k13, c3, c2, hgd, ct, zo, zn], rfl⟩)
     ·skip
      simp (disch := omega) only [go_sem, m1, m2, s1, s2, s3, s4, s5, sO, sN, sS, sA, List.length_cons, List.length_nil, k13, c3', c2', zo];exact DFin.sub (show Sub H _ from (by repeat (first | exact Sub.refl _ | assumption | refine Sub.up ?_ (by assumption) _))) (DFin.refl ⟨by simp [fieldsE, zO, zN, zS, zA, isEmpty_len, k13, c3, c2, hgd, ct, zo], rfl⟩)
    | false =>
     simp (disch := omega) only [go_sem, m1, m2, s1, s2, s3, s4, s5, sO, sN, sS, sA, List.length_cons, List.length_nil, k13, c3', c2'];exact DFin.sub (show Sub H _ from (by repeat (first | exact Sub.refl _ | assumption | refine Sub.up ?_ (by assumption) _))) (DFin.refl ⟨by simp [fieldsE, zO, zN, zS, zA, isEmpty_len, k13, c3, c2, hgd, ct], rfl⟩)
   ·have c2' : ¬ (e.l.length : Int) = 2 := by omega
    simp (disch := omega) only [go_sem, m1, m2, s1, s2, s3, s4, s5, sO, sN, sS, sA, List.length_cons, List.length_nil, k13, c3', c2'];exact DFin.sub (show Sub H _ from (by repeat (first | exact Sub.refl _ | assumption | refine Sub.up ?_ (by assumption) _))) (DFin.refl ⟨by simp [fieldsE, zO, zN, zS, zA, isEmpty_len, k13, c3, c2], rfl⟩)
 by_cases k14 : e.kind = 14
 ·skip
  by_cases c3 : e.l.length = 3
  ·have c3' : (e.l.length : Int) = 3 := by omega
   by_cases zo : e.oper = 0
   ·skip
    by_cases zn : e.n = 0
    ·skip
     by_cases zs : e.s = []
     ·skip
      by_cases za : e.a.length = 0
      ·have za' : (e.a.length : Int) = 0 := by omega
       have ya : e.a = [] := List.length_eq_zero_iff.1 za;simp (disch := omega) only [go_sem, m1, m2, s1, s2, s3, s4, s5, sO, sN, sS, sA, List.length_cons, List.length_nil, k14, c3', zo, zn, zs, za'];exact DFin.sub (show Sub H _ from (by repeat (first | exact Sub.refl _ | assumption | refine Sub.up ?_ (by assumption) _))) (DFin.refl ⟨by simp [fieldsE, zO, zN, zS, zA, isEmpty_len, k14, c3, zo, zn, zs, ya], rfl⟩)
      ·have za' : ¬ ((e.a.length : Int) = 0) := by omega
       simp (disch := omega) only [go_sem, m1, m2, s1, s2, s3, s4, s5, sO, sN, sS, sA, List.length_cons, List.length_nil, k14, c3', zo, zn, zs, za'];exact DFin.sub (show Sub H _ from (by repeat (first | exact Sub.refl _ | assumption | refine Sub.up ?_ (by assumption) _))) (DFin.refl ⟨by simp [fieldsE, zO, zN, zS, zA, isEmpty_len, k14, c3, zo, zn, zs, za], rfl⟩)
     ·skip
      simp (disch := omega) only [go_sem, m1, m2, s1, s2, s3, s4, s5, sO, sN, sS, sA, List.length_cons, List.length_nil, k14, c3', zo, zn, zs];exact DFin.sub (show Sub H _ from (by repeat (first | exact Sub.refl _ | assumption | refine Sub.up ?_ (by assumption) _))) (DFin.refl ⟨by simp [fieldsE, zO, zN, zS, zA, isEmpty_len, k14, c3, zo, zn, zs], rfl⟩)
    ·skip
     simp (disch := omega) only [go_sem, m1, m2, s1, s2, s3, s4, s5, sO, sN, sS, sA, List.length_cons, List.length_nil, k14, c3', zo, zn];exact DFin.sub (show Sub H _ from (by repeat (first | exact Sub.refl _ | assumption | refine Sub.up ?_ (by assumption) _))) (DFin.refl ⟨by simp [fieldsE, zO, zN, zS, zA, isEmpty_len, k14, c3, zo, zn], rfl⟩)
   ·skip
    simp (disch := omega) only [go_sem, m1, m2, s1, s2, s3, s4, s5, sO, sN, sS, sA, List.length_cons, List.length_nil, k14, c3', zo];exact DFin.sub (show Sub H _ from (by repeat (first | exact Sub.refl _ | assumption | refine Sub.up ?_ (by assumption) _))) (DFin.refl ⟨by simp [fieldsE, zO, zN, zS, zA, isEmpty_len, k14, c3, zo], rfl⟩)
  ·have c3' : ¬ (e.l.length : Int) = 3 := by omega
   by_cases c2 : e.l.length = 2
   ·have c2' : (e.l.length : Int) = 2 := by omega
    have hp1 : 1 < e.l.length := by omega
    have hg := flat_el dEx_len e.l 1 hp1;have hgd : e.l.getD 1 ex0 = e.l[1] := by rw [List.getD, List.getElem?_eq_getElem hp1]; rfl
    rw [Nat.one_mul] at hg;simp (disch := omega) only [go_sem, m1, m2, s1, s2, s3, s4, s5, sO, sN, sS, sA, List.length_cons, List.length_nil, k14, c3', c2', hg, hfl];refine (namedE_spec G _ e.l[1]).mono ?_;rintro _ H1 ⟨rfl, rfl⟩;cases ct : namedE e.l[1] with
    | true =>
     by_cases zo : e.oper = 0
     ·skip
      by_cases zn : e.n = 0
      ·skip
       by_cases zs : e.s = []
       ·skip
        by_cases za : e.a.length = 0
        ·have za' : (e.a.length : Int) = 0 := by omega
         have ya : e.a = [] := List.length_eq_zero_iff.1 za;simp (disch := omega) only [go_sem, m1, m2, s1, s2, s3, s4, s5, sO, sN, sS, sA, List.length_cons, List.length_nil, k14, c3', c2', zo, zn, zs, za'];exact DFin.sub (show Sub H _ from (by repeat (first | exact Sub.refl _ | assumption | refine Sub.up ?_ (by assumption) _))) (DFin.refl ⟨by simp [fieldsE, zO, zN, zS, zA, isEmpty_len, k14, c3, c2, hgd, ct, zo, zn, zs, ya], rfl⟩)
        ·have za' : ¬ ((e.a.length : Int) = 0) := by omega
         simp (disch := omega) only [go_sem, m1, m2, s1, s2, s3, s4, s5, sO, sN, sS, sA, List.length_cons, List.length_nil, k14, c3', c2', zo, zn, zs, za'];exact DFin.sub (show Sub H _ from (by repeat (first | exact Sub.refl _ | assumption | refine Sub.up ?_ (by assumption) _))) (DFin.refl ⟨by simp [fieldsE, zO, zN, zS, zA, isEmpty_len, k14, c3, c2, hgd, ct, zo, zn, zs, za], rfl⟩)
       ·skip
        simp (disch := omega) only [go_sem, m1, m2, s1, s2, s3, s4, s5, sO, sN, sS, sA, List.length_cons, List.length_nil, k14, c3', c2', zo, zn, zs];exact DFin.sub (show Sub H _ from (by repeat (first | exact Sub.refl _ | assumption | refine Sub.up ?_ (by assumption) _))) (DFin.refl ⟨by simp [fieldsE, zO, zN, zS, zA, isEmpty_len, k14, c3, c2, hgd, ct, zo, zn, zs], rfl⟩)
      ·skip
       simp (disch := omega) only [go_sem, m1, m2, s1, s2, s3, s4, s5, sO, sN, sS, sA, List.length_cons, List.length_nil, k14, c3', c2', zo, zn];exact DFin.sub (show Sub H _ from (by repeat (first | exact Sub.refl _ | assumption | refine Sub.up ?_ (by assumption) _))) (DFin.refl ⟨by simp [fieldsE, zO, zN, zS, zA, isEmpty_len, k14, c3, c2, hgd, ct, zo, zn], rfl⟩)
     ·skip
      simp (disch := omega) only [go_sem, m1, m2, s1, s2, s3, s4, s5, sO, sN, sS, sA, List.length_cons, List.length_nil, k14, c3', c2', zo];exact DFin.sub (show Sub H _ from (by repeat (first | exact Sub.refl _ | assumption | refine Sub.up ?_ (by assumption) _))) (DFin.refl ⟨by simp [fieldsE, zO, zN, zS, zA, isEmpty_len, k14, c3, c2, hgd, ct, zo], rfl⟩)
    | false =>
     simp (disch := omega) only [go_sem, m1, m2, s1, s2, s3, s4, s5, sO, sN, sS, sA, List.length_cons, List.length_nil, k14, c3', c2'];exact DFin.sub (show Sub H _ from (by repeat (first | exact Sub.refl _ | assumption | refine Sub.up ?_ (by assumption) _))) (DFin.refl ⟨by simp [fieldsE, zO, zN, zS, zA, isEmpty_len, k14, c3, c2, hgd, ct], rfl⟩)
   ·have c2' : ¬ (e.l.length : Int) = 2 := by omega
    simp (disch := omega) only [go_sem, m1, m2, s1, s2, s3, s4, s5, sO, sN, sS, sA, List.length_cons, List.length_nil, k14, c3', c2'];exact DFin.sub (show Sub H _ from (by repeat (first | exact Sub.refl _ | assumption | refine Sub.up ?_ (by assumption) _))) (DFin.refl ⟨by simp [fieldsE, zO, zN, zS, zA, isEmpty_len, k14, c3, c2], rfl⟩)
 simp (disch := omega) only [go_sem, m1, m2, s1, s2, s3, s4, s5, sO, sN, sS, sA, List.length_cons, List.length_nil, k1, k2, k3, k4, k6, k5, k7, k8, k9, k10, k11, k12, k13, k14];exact DFin.sub (show Sub H _ from (by repeat (first | exact Sub.refl _ | assumption | refine Sub.up ?_ (by assumption) _))) (DFin.refl ⟨by simp [fieldsE, k1, k2, k3, k4, k6, k5, k7, k8, k9, k10, k11, k12, k13, k14], rfl⟩)
end
end Go.Dl

-- Chapter 3: May, MayArgs, MayChoices, Size.
namespace Go.Dl
open Go Go.Proofs
set_option maxRecDepth 100000
mutual
def okE : Ex → Prop
 | .mk _ _ _ s l a _ _ _ => s.length ≤ 9223372036854775807 ∧ okL l ∧ okAs a
def okL : List Ex → Prop
 | [] => True
 | x :: l => okE x ∧ okL l
def okA : As → Prop
 | .mk c e => okCs c ∧ okE e
def okAs : List As → Prop
 | [] => True
 | x :: l => okA x ∧ okAs l
def okC : Ch → Prop
 | .mk _ l => okL l
def okCs : List Ch → Prop
 | [] => True
 | x :: l => okC x ∧ okCs l
end
theorem okL_mem : ∀ {l : List Ex}, okL l → ∀ x ∈ l, okE x
 | y :: l, h, x, hx => by
  rw [okL] at h;rcases List.mem_cons.1 hx with rfl | hx
  ·exact h.1
  ·exact okL_mem h.2 x hx
theorem okAs_mem : ∀ {l : List As}, okAs l → ∀ x ∈ l, okA x
 | y :: l, h, x, hx => by
  rw [okAs] at h;rcases List.mem_cons.1 hx with rfl | hx
  ·exact h.1
  ·exact okAs_mem h.2 x hx
theorem okCs_mem : ∀ {l : List Ch}, okCs l → ∀ x ∈ l, okC x
 | y :: l, h, x, hx => by
  rw [okCs] at h;rcases List.mem_cons.1 hx with rfl | hx
  ·exact h.1
  ·exact okCs_mem h.2 x hx
theorem okE_eq {e : Ex} : okE e ↔ e.s.length ≤ 9223372036854775807 ∧ okL e.l ∧ okAs e.a := by cases e; rw [okE]; rfl
theorem okA_eq {e : As} : okA e ↔ okCs e.c ∧ okE e.e := by cases e; rw [okA]; rfl
theorem okC_eq {e : Ch} : okC e ↔ okL e.l := by cases e; rw [okC]; rfl
theorem okA_parts {a : As} (h : okA a) : ∀ x ∈ partsA a, okE x := fun x hx => by
 rw [okA_eq] at h;rcases List.mem_append.1 hx with hx | hx
 ·obtain ⟨c, hc, hx⟩ := List.mem_flatMap.1 hx;exact okL_mem (okC_eq.1 (okCs_mem h.1 c hc)) x hx
 ·rw [List.mem_singleton] at hx; subst hx; exact h.2
theorem okE_parts {e : Ex} (h : okE e) : ∀ x ∈ parts e, okE x := fun x hx => by
 rw [okE_eq] at h;rcases List.mem_append.1 hx with hx | hx
 ·exact okL_mem h.2.1 x hx
 ·obtain ⟨a, ha, hx⟩ := List.mem_flatMap.1 hx;exact okA_parts (okAs_mem h.2.2 a ha) x hx
theorem bigA_parts {a : As} : ∀ x ∈ partsA a, bigE x ≤ bigA a := fun x hx => by
 rw [bigA_eq];rcases List.mem_append.1 hx with hx | hx
 ·obtain ⟨c, hc, hx⟩ := List.mem_flatMap.1 hx;have h1 := bigCs_mem hc;have h2 := bigL_mem hx;rw [bigC_eq] at h1; omega
 ·rw [List.mem_singleton] at hx; subst hx; omega
theorem bigE_parts {e x : Ex} (hx : x ∈ parts e) : bigE x < bigE e := by
 rcases List.mem_append.1 hx with hx | hx
 ·exact big_le hx
 ·obtain ⟨a, ha, hx⟩ := List.mem_flatMap.1 hx;have h1 := big_ae ha;have h2 := bigA_parts x hx;omega
structure Fit (e : Ex) : Prop where
 big : bigE e ≤ 1099511627776
 ok : okE e
theorem Fit.parts {e x : Ex} (h : Fit e) (hx : x ∈ Dl.parts e) : Fit x := ⟨by have := bigE_parts hx; have := h.big; omega, okE_parts h.ok x hx⟩
theorem Fit.s {e : Ex} (h : Fit e) : e.s.length ≤ 9223372036854775807 := (okE_eq.1 h.ok).1
mutual
theorem size_bigE : ∀ e : Ex, sizeE e ≤ bigE e
 | .mk _ _ _ _ l a _ _ _ => by rw [sizeE, bigE]; have := size_bigL l; have := size_bigAs a; omega
theorem size_bigL : ∀ l : List Ex, sizeL l ≤ bigL l
 | [] => Nat.le_refl _
 | x :: l => by rw [sizeL, bigL]; have := size_bigE x; have := size_bigL l; omega
theorem size_bigA : ∀ a : As, sizeA a ≤ bigA a
 | .mk c e => by rw [sizeA, bigA]; have := size_bigCs c; have := size_bigE e; omega
theorem size_bigAs : ∀ l : List As, sizeAs l ≤ bigAs l
 | [] => Nat.le_refl _
 | x :: l => by rw [sizeAs, bigAs]; have := size_bigA x; have := size_bigAs l; omega
theorem size_bigC : ∀ c : Ch, sizeC c ≤ bigC c
 | .mk _ l => by rw [sizeC, bigC]; have := size_bigL l; omega
theorem size_bigCs : ∀ l : List Ch, sizeCs l ≤ bigCs l
 | [] => Nat.le_refl _
 | x :: l => by rw [sizeCs, bigCs]; have := size_bigC x; have := size_bigCs l; omega
end
mutual
theorem fz_dEx (r : Nat) (cs : List DVal) : ∀ e : Ex, fzs r cs (dEx e) = dEx e
 | .mk _ _ _ _ l a _ _ _ => by simp only [dEx, fzs, fz, fz_dExs r cs l, fz_dAss r cs a]
theorem fz_dExs (r : Nat) (cs : List DVal) : ∀ l : List Ex, fzs r cs (dExs l) = dExs l
 | [] => by simp only [dExs, fzs]
 | x :: l => by rw [dExs, fzs_append, fz_dEx r cs x, fz_dExs r cs l]
theorem fz_dAs (r : Nat) (cs : List DVal) : ∀ a : As, fzs r cs (dAs a) = dAs a
 | .mk c e => by simp only [dAs, fzs, fz, fz_dChs r cs c, fz_dEx r cs e]
theorem fz_dAss (r : Nat) (cs : List DVal) : ∀ l : List As, fzs r cs (dAss l) = dAss l
 | [] => by simp only [dAss, fzs]
 | x :: l => by rw [dAss, fzs_append, fz_dAs r cs x, fz_dAss r cs l]
theorem fz_dCh (r : Nat) (cs : List DVal) : ∀ c : Ch, fzs r cs (dCh c) = dCh c
 | .mk _ l => by simp only [dCh, fzs, fz, fz_dExs r cs l]
theorem fz_dChs (r : Nat) (cs : List DVal) : ∀ l : List Ch, fzs r cs (dChs l) = dChs l
 | [] => by simp only [dChs, fzs]
 | x :: l => by rw [dChs, fzs_append, fz_dCh r cs x, fz_dChs r cs l]
end
def MayR (d : Nat) (x : Ex) (s : Int) (b : Bool) (s' : Int) : Prop := 0 ≤ s → s ≤ 256 → b = (validE d x && decide ((sizeE x : Int) ≤ s)) ∧ (b = true → s' = s - sizeE x)
theorem run_may (d : Nat) : ∀ (l : List Ex) (s : Int) (b : Bool) (s' : Int), RunR (MayR d) l s b s' → 0 ≤ s → s ≤ 256 → b = (l.all (validE d) && decide ((sumE l : Int) ≤ s)) ∧ (b = true → s' = s - sumE l)
 | [], s, b, s', h, h0, _ => by
  obtain ⟨rfl, rfl⟩ := h;exact ⟨by simp [sumE, h0], fun _ => by simp [sumE]⟩
 | x :: l, s, b, s', h, h0, h1 => by
  obtain ⟨b1, s1, hx, h⟩ := h;obtain ⟨hb, hs⟩ := hx h0 h1;have hsum : sumE (x :: l) = sizeE x + sumE l := by simp [sumE]
  rcases h with ⟨rfl, h⟩ | ⟨rfl, rfl, rfl⟩
  ·have e1 := hs rfl;have hb' := hb.symm;rw [Bool.and_eq_true, decide_eq_true_eq] at hb';obtain ⟨k1, k2⟩ := run_may d l s1 b s' h (by omega) (by omega);refine ⟨?_, fun hb => ?_⟩
   ·rw [k1, List.all_cons, hb'.1, Bool.true_and, hsum];congr 1;exact decide_eq_decide.2 ⟨fun h => by omega, fun h => by omega⟩
   ·rw [k2 hb, hsum]; omega
  ·refine ⟨?_, fun h => (by cases h)⟩;rw [List.all_cons, hsum];cases hv : validE d x with
   | false => rfl
   | true =>
    rw [hv, Bool.true_and] at hb;have := of_decide_eq_false hb.symm;rw [decide_eq_false (by omega), Bool.and_false]
section
variable {G : Nat → DVal} {H : DHeap}
theorem mayAt_spec (G : Nat → DVal) (H : DHeap) (d : Int) (rl ra : Nat) : DCalls Tryz.prog G 55 ([] ++ [.int .i64 d] ++ [.optr rl 0, .optr ra 0]) H
  (fun e H' => ∃ rd, H rd = none ∧ e = .ret (.func (.func 56) [] [.optr rl 0, .optr rd 0, .optr ra 0]) ∧ H' = upd H rd (some (intO d))) := by
 refine dcalls_intro Tryz.func55 Tryz.call55 rfl (by kernel_rfl) ?_;simp (disch := omega) only [go_sem, DVal.cells, List.nil_append, List.cons_append];intro rd hrd; dsimp only at hrd;simp (disch := omega) only [go_sem];exact DFin.refl ⟨rd, hrd, rfl, rfl⟩
theorem may1_spec (hG : GX G) (rl ra : Nat) (hla : rl ≠ ra) : ∀ (x : Ex) (H : DHeap) (d : Nat) (s : Int) (rd : Nat), Fit x → d ≤ 1000000 → H rl = some (intO s) → H rd = some (intO d) → rl ≠ rd → H ra = some (.cells [.func (.func 55) [] [.optr rl 0, .optr ra 0]] 86) →
  DCalls Tryz.prog G 56 ([] ++ [.agg (dEx x)] ++ [.optr rl 0, .optr rd 0, .optr ra 0]) H (StepQ (MayR d) x s rl H) := by
 intro x
 induction x using Ex.ind with
 | h x ih =>
  intro H d s rd hx hd hl hdd hld ha;refine dcalls_intro Tryz.func56 Tryz.call56 rfl (by kernel_rfl) ?_;simp (disch := omega) only [go_sem, DVal.cells, List.nil_append, List.cons_append];intro r4 hr4; dsimp only at hr4;have n1 : rl ≠ r4 := none_ne hr4 hl;have n2 : rd ≠ r4 := none_ne hr4 hdd;have n3 : ra ≠ r4 := none_ne hr4 ha;unfold intO at hl hdd;obtain ⟨s1, hs1⟩ : ∃ s1, s1 = IntKind.i64.wrap (s - 1) := ⟨_, rfl⟩;have hdl : rd ≠ rl := hld.symm;have hal : ra ≠ rl := hla.symm;simp (disch := omega) only [go_sem, n1, n2, n3, hl, hdd, ha, hld, hla, hdl, hal, ← hs1];refine dwp_draws (by kernel_rfl) (.take 0 (.take 1 (.take 2 (.take 3 (.take 4 (.take 5 (.take 6 (.take 7 (.go 8 [] (.take 9 (.take 10 (.take 11 (.take 12 (.take 13 (.take 14 (.go 15 [11] (.go 16 [] (.take 17 (.take 18 .done))))))))))))))))))) (by kernel_rfl) ?_;have q1 : r4 ≠ rl := n1.symm;have q2 : r4 ≠ rd := n2.symm;have q3 : r4 ≠ ra := n3.symm;obtain ⟨H4, hH4⟩ : ∃ H4, H4 = upd (upd H r4 (some (.cells (dEx x) 27))) rl (some (.cells [.int .i64 s1] 3)) := ⟨_, rfl⟩;have ht4 : Turn rl H H4 := by rw [hH4]; exact ((Turn.refl rl H).new hr4 _).set _
  have g1 : H4 rl = some (.cells [.int .i64 s1] 3) := by rw [hH4]; exact upd_same _ _ _
  have g2 : H4 rd = some (.cells [.int .i64 d] 3) := ht4 _ _ hdl hdd;have g3 : H4 ra = some (.cells [.func (.func 55) [] [.optr rl 0, .optr ra 0]] 86) := ht4 _ _ hal ha;have g4 : H4 r4 = some (.cells (dEx x) 27) := by rw [hH4]; simp [upd, q1]
  rw [← hH4];have sv : ∀ b : Bool, 0 ≤ s → s ≤ 256 → s1 = s - 1 := fun _ h0 h1 => by rw [hs1, IntKind.wrap_i64]; omega
  have hsz : (sizeE x : Int) = 1 + (sumE (parts x) : Int) := by rw [sizeE_sum x]; omega
  by_cases c1 : 0 ≤ s1
  ·by_cases c2 : d ≤ 32
   ·have c2' : (d : Int) ≤ 32 := by omega
    simp (disch := omega) only [go_sem, g1, g2, g3, g4, c1, c2'];refine (fields_spec hG _ x hx.big hx.s).mono ?_;rintro _ H5 ⟨rfl, rfl⟩;cases hf : fieldsE x with
    | true =>
     have hwd : IntKind.i64.wrap ((d : Int) + 1) = ((d + 1 : Nat) : Int) := by rw [IntKind.wrap_i64]; omega
     simp (disch := omega) only [go_sem, g1, g2, g3, g4, hwd];refine (mayAt_spec G _ ((d + 1 : Nat) : Int) rl ra).mono ?_;rintro _ H6 ⟨r6, hr6, rfl, rfl⟩;have p1 : rl ≠ r6 := none_ne hr6 g1;have p2 : ra ≠ r6 := none_ne hr6 g3;have p3 : rd ≠ r6 := none_ne hr6 g2;have p4 : r4 ≠ r6 := none_ne hr6 g4;have ht6 : Turn rl H (upd H5 r6 (some (intO ((d + 1 : Nat) : Int)))) := ht4.new hr6 _;simp (disch := omega) only [go_sem, g1, g2, g3, g4, p1, p3, p4];refine (each_spec G _ x hx.big 56 [] [.optr rl 0, .optr r6 0, .optr ra 0] (MayR (d + 1)) rl s1 (by simp only [upd, if_neg p1]; exact g1) fun y hy t K hK hT => ih y hy K (d + 1) t r6 (hx.parts hy) (by omega) hK (hT _ _ p1.symm (upd_same _ _ _)) p1 (hT _ _ hal (by simp only [upd, if_neg p2]; exact g3))).mono ?_;rintro _ H7 ⟨b, t, rfl, hR, ht, hT⟩;have k2 : H7 rd = some (.cells [.int .i64 d] 3) := hT _ _ hdl (by simp only [upd, if_neg p3]; exact g2);have k4 : H7 r4 = some (.cells (dEx x) 27) := hT _ _ q1 (by simp only [upd, if_neg p4]; exact g4);simp (disch := omega) only [go_sem, g1, g2, g3, g4, p1, p3, p4, k2, k4]
     trace_state
     refine DFin.refl ⟨b, t, rfl, fun h0 h1 => ?_, ht, ht6.trans hT⟩;have e1 := sv true h0 h1;obtain ⟨w1, w2⟩ := run_may (d + 1) _ _ _ _ hR c1 (by omega);refine ⟨?_, fun hb => by rw [w2 hb, hsz]; omega⟩;rw [w1, validE_eq, hf, decide_eq_true c2, Bool.true_and, Bool.true_and];congr 1;exact decide_eq_decide.2 ⟨fun h => by omega, fun h => by omega⟩
    | false =>
     simp (disch := omega) only [go_sem, g1, g2, g3, g4];refine DFin.refl ⟨false, s1, rfl, fun _ _ => ⟨?_, fun h => (by cases h)⟩, g1, ht4⟩;rw [validE_eq, hf, Bool.and_false, Bool.false_and, Bool.false_and]
   ·have c2' : ¬ (d : Int) ≤ 32 := by omega
    simp (disch := omega) only [go_sem, g1, g2, g3, g4, c1, c2'];refine DFin.refl ⟨false, s1, rfl, fun _ _ => ⟨?_, fun h => (by cases h)⟩, g1, ht4⟩;rw [validE_eq, decide_eq_false c2, Bool.false_and, Bool.false_and, Bool.false_and]
  ·simp (disch := omega) only [go_sem, g1, g2, g3, g4, c1];refine DFin.refl ⟨false, s1, rfl, fun h0 h1 => ⟨?_, fun h => (by cases h)⟩, g1, ht4⟩;have := sv true h0 h1;rw [decide_eq_false (by omega), Bool.and_false]
theorem may_spec (hG : GX G) (H : DHeap) (e : Ex) (he : Fit e) : DCalls Tryz.prog G 13 [.agg (dEx e)] H (DRet (.bool (mayE e)) H) := by
 refine dcalls_intro Tryz.func13 Tryz.call13 rfl (by kernel_rfl) ?_;simp (disch := omega) only [go_sem, DVal.cells];intro r1 hr1; dsimp only at hr1;simp (disch := omega) only [go_sem, DVal.cells];intro r3 hr3; dsimp only at hr3;obtain ⟨m1, m2, hr3'⟩ := upd_eq_none.1 hr3;simp (disch := omega) only [go_sem, DVal.cells, m1, m2];intro r4 hr4; dsimp only at hr4;obtain ⟨p1, p2, hr4a⟩ := upd_eq_none.1 hr4;obtain ⟨p3, p4, hr4'⟩ := upd_eq_none.1 hr4a;simp (disch := omega) only [go_sem, DVal.cells, m1, m2, p1, p2, p3, p4];have hub : Sub H (upd (upd (upd H r1 (some (.cells (dEx e) 27))) r3 (some (intO 256))) r4 (some (.cells [.func (.func 55) [] [.optr r3 0, .optr r4 0]] 86))) := ((Sub.refl H).new hr1 _ |>.new hr3 _).new hr4 _;have y1 : upd (upd (upd H r1 (some (.cells (dEx e) 27))) r3 (some (intO 256))) r4 (some (.cells [.func (.func 55) [] [.optr r3 0, .optr r4 0]] 86)) r1 = some (.cells (dEx e) 27) := by simp [upd, m2, p4]
 have y3 : upd (upd (upd H r1 (some (.cells (dEx e) 27))) r3 (some (intO 256))) r4 (some (.cells [.func (.func 55) [] [.optr r3 0, .optr r4 0]] 86)) r3 = some (intO 256) := by simp [upd, p2]
 have y4 : upd (upd (upd H r1 (some (.cells (dEx e) 27))) r3 (some (intO 256))) r4 (some (.cells [.func (.func 55) [] [.optr r3 0, .optr r4 0]] 86)) r4 = some (.cells [.func (.func 55) [] [.optr r3 0, .optr r4 0]] 86) := upd_same _ _ _;change dwp _ _ _ _ _ ⟨_, upd (upd (upd H r1 (some (.cells (dEx e) 27))) r3 (some (intO 256))) r4 (some (.cells [.func (.func 55) [] [.optr r3 0, .optr r4 0]] 86))⟩;generalize upd (upd (upd H r1 (some (.cells (dEx e) 27))) r3 (some (intO 256))) r4 (some (.cells [.func (.func 55) [] [.optr r3 0, .optr r4 0]] 86)) = K at hub y1 y3 y4;refine dwp_draws (by kernel_rfl) (.take 0 (.take 2 (.go 1 [2] (.go 3 [] (.take 4 .done))))) (by kernel_rfl) ?_;simp (disch := omega) only [go_sem, y1, y3, y4];refine (mayAt_spec G _ 1 r3 r4).mono ?_;rintro _ H6 ⟨r6, hr6, rfl, rfl⟩;have x1 : r1 ≠ r6 := none_ne hr6 y1;have x3 : r3 ≠ r6 := none_ne hr6 y3;have x4 : r4 ≠ r6 := none_ne hr6 y4;simp (disch := omega) only [go_sem, y1, y3, y4, x1, x3, x4];refine (may1_spec hG r3 r4 p2 e _ 1 256 r6 he (by decide) (by simp only [upd, if_neg x3]; exact y3) (upd_same _ _ _) x3 (by simp only [upd, if_neg x4]; exact y4)).mono ?_;rintro _ H7 ⟨b, t, rfl, hR, ht, hT⟩;obtain ⟨w1, _⟩ := hR (by decide) (by decide);have z1 : H7 r1 = some (.cells (dEx e) 27) := hT _ _ m2 (by simp only [upd, if_neg x1]; exact y1);have z4 : H7 r4 = some (.cells [.func (.func 55) [] [.optr r3 0, .optr r4 0]] 86) := hT _ _ p1 (by simp only [upd, if_neg x4]; exact y4);simp (disch := omega) only [go_sem, y1, y3, y4, x1, x3, x4, z1, z4];refine DFin.sub (hT.sub (hub.new hr6 _) hr3') (DFin.refl ⟨?_, rfl⟩);rw [w1, mayE];have : ((sizeE e : Int) ≤ 256) ↔ sizeE e ≤ 256 := by omega
 simp only [this]
end
end Go.Dl

-- Chapter 3: values that are put together, seen as trees; MayArgs, MayChoices, Size, Level.
namespace Go.Dl
open Go Go.Proofs
set_option maxRecDepth 100000
def Seen (H' : DHeap) (v : DVal) (H : DHeap) (v' : DVal) : Prop := ∀ w, SimHeap w H' → ∀ x, Rel w H' v x → Rel w H v' x
def Seens (H' : DHeap) (vs : List DVal) (H : DHeap) (vs' : List DVal) : Prop := ∀ w, SimHeap w H' → ∀ xs, RelL w H' vs xs → RelL w H vs' xs
section
variable {H H' : DHeap}
theorem Seen.keep (h : Sub H H') (v : DVal) : Seen H' v H v := fun w _ x hx => Rel.lasts (lasts_sub h w) _ _ hx
theorem Seen.le {v v' : DVal} (h : Sub H H') (k : DLe v v') : Seen H' v H v' := fun w _ x hx => Rel.lasts (lasts_sub h w) _ _ (k w H' x hx)
theorem Seen.own {e : TypeId} {size n : Nat} {cs : List DVal} {v : DVal} (h : OwnJ H e size n cs v H') : Seen H' v H (.vslice cs n) := fun w hw x hx => (h.ghost w hw).2.2 x hx
theorem Seen.block {e : TypeId} {size r n : Nat} {cs : List DVal} (h : Sub H H') (hr : H r = none) (hc : H' r = some (.cells cs e)) (hl : cs.length = n * size) : Seen H' (.oslice size r 0 n n) H (.vslice cs n) :=
 Seen.own (e := e) (.inr ⟨r, hr, hl, rfl, hc, h⟩)
theorem Seens.nil : Seens H' [] H [] := fun w _ xs hx => by simpa [RelL] using hx
theorem Seens.cons {v v' : DVal} {vs vs' : List DVal} (h : Seen H' v H v') (k : Seens H' vs H vs') : Seens H' (v :: vs) H (v' :: vs') := fun w hw xs hx => by
 simp only [RelL] at hx ⊢
 obtain ⟨y, ys, rfl, h1, h2⟩ := hx;exact ⟨y, ys, rfl, h w hw y h1, k w hw ys h2⟩
theorem Seens.keep (h : Sub H H') (vs : List DVal) : Seens H' vs H vs := fun w _ xs hx => RelL.lasts (lasts_sub h w) _ _ hx
theorem Seen.agg {vs vs' : List DVal} (h : Seens H' vs H vs') : Seen H' (.agg vs) H (.agg vs') := fun w hw x hx => by
 simp only [Rel] at hx ⊢
 obtain ⟨xs, rfl, h1⟩ := hx;exact ⟨xs, rfl, h w hw _ h1⟩
theorem Seen.tuple {vs vs' : List DVal} (h : Seens H' vs H vs') : Seen H' (.tuple vs) H (.tuple vs') := fun w hw x hx => by
 simp only [Rel] at hx ⊢
 obtain ⟨xs, rfl, h1⟩ := hx;exact ⟨xs, rfl, h w hw _ h1⟩
theorem Seen.nil (h : Sub H H') : Seen H' .nilSlice H (.vslice [] 0) := Seen.le h .nil
theorem Seen.cells {e : TypeId} {size r n : Nat} {cs cs' : List DVal} (h : Sub H H') (hr : H r = none) (hc : H' r = some (.cells cs e)) (hl : cs.length = n * size) (hs : Seens H' cs H cs') : Seen H' (.oslice size r 0 n n) H (.vslice cs' n) := fun w hw x hx => by
 obtain ⟨_, _, k3⟩ := GhostE.fz (v := .oslice size r 0 n n) hc w hw;obtain ⟨ys, hy1, hy2⟩ := own_cellsAt hw hc;simp only [Rel] at hx ⊢
 obtain ⟨o, cap, rfl, h1, h2, h3, h4⟩ := hx;refine ⟨_, cap, rfl, h2, ?_⟩;by_cases h0 : cs = []
 ·subst h0;have := hs w hw [] (by simp [RelL]);cases cs' with
  | nil => exact .inl rfl
  | cons c cs' => simp [RelL] at this
 ·obtain ⟨zs, hl1, hh⟩ := hw.holds hc;have ho : o = 0 := by
   rcases h3 with h3 | h3
   ·exfalso;have : n = 0 := by omega
    subst this;rw [Nat.zero_mul] at hl;exact h0 (List.length_eq_zero_iff.1 hl)
   ·exact h3
  subst ho;exact .inr ⟨r, 0, zs, rfl, .inr ⟨hr, fun i y hy => by simpa using hh i y hy⟩, hs w hw zs hl1⟩
theorem Seen.fin {R : DEnd → DHeap → Prop} {v v' : DVal} (hs : Sub H H') (h : Seen H' v H v') (k : R (.ret v') H) : DFin R v H' := .ghost (fun w hw => ⟨((GhostE.sub hs v) w hw).1, ((GhostE.sub hs v) w hw).2.1, h w hw⟩) (.refl k)
theorem Seens.call {P : Program} {G : Nat → DVal} {f : FuncId} {args args' : List DVal} {R : DEnd → DHeap → Prop} (hs : Sub H H') (h : Seens H' args H args') (k : DCalls P G f args' H R) : DCalls P G f args H' R :=
 DCalls.pre (fun w hw => ⟨((GhostE.sub hs (.tuple args)) w hw).1, ((GhostE.sub hs (.tuple args)) w hw).2.1, Seen.tuple h w hw⟩) k
theorem Seens.lent {P : Program} {G : Nat → DVal} {f : FuncId} {args args' : List DVal} {v : DVal} (h : Seens H' args H args') (k : DCalls P G f args' h0 (DRet v h0)) (hv : loose v = true) : DCalls P G f args H' (DRet v H') :=
 k.lent (fun w vs hw hr => RelL.lasts (lasts_h0 H w) _ _ (h w hw vs hr)) hv
theorem Seen.ex {k o n : Int} {s : List UInt8} {vl va : DVal} {l : List Ex} {a : List As} {li en t : Int} (hs : Sub H H') (hl : Seen H' vl H (dXs l)) (ha : Seen H' va H (dAl a)) :
  Seens H' [.int .u8 k, .int .u8 o, .int .i64 n, .str s, vl, va, .int .i64 li, .int .i64 en, .int .i64 t] H (dEx (.mk k o n s l a li en t)) := by
 rw [dEx_mk];exact .cons (.keep hs _) (.cons (.keep hs _) (.cons (.keep hs _) (.cons (.keep hs _) (.cons hl (.cons ha (.keep hs _))))))
theorem Seen.exs0 (hs : Sub H H') : Seen H' .nilSlice H (dXs []) := Seen.nil hs
theorem Seen.as0 (hs : Sub H H') : Seen H' .nilSlice H (dAl []) := Seen.nil hs
theorem Seen.ch0 (hs : Sub H H') : Seen H' .nilSlice H (dCl []) := Seen.nil hs
end
section
end
end Go.Dl
