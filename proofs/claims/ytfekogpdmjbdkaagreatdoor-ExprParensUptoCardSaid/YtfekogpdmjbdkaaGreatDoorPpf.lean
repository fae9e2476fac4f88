/- The data level and the contracts of the functions that are reached (part 6). -/
import Derived.RecoverIn
import Derived.Test.YtfekogpdmjbdkaaGreatDoorPpe
set_option linter.unusedSimpArgs false
set_option linter.unusedVariables false
set_option linter.unusedSectionVars false
-- Chapter 3: Size, Level, Same, SameArgs, SameChoices (printed by gen_ua.py).
namespace Go.Dl
open Go Go.Proofs
set_option maxRecDepth 100000
def eqF {α : Type} (p : α → α → Bool) : List α → List α → Bool
 | [], [] => true
 | x :: l, y :: m => p x y && eqF p l m
 | _, _ => false
theorem eqF_len {α : Type} {p : α → α → Bool} : ∀ {l m : List α}, eqF p l m = true → l.length = m.length
 | [], [], _ => rfl
 | [], _ :: _, h => by cases h
 | _ :: _, [], h => by cases h
 | x :: l, y :: m, h => by
  rw [eqF, Bool.and_eq_true] at h;rw [List.length_cons, List.length_cons, eqF_len h.2]
theorem eqF_ne {α : Type} {p : α → α → Bool} {l m : List α} (h : l.length ≠ m.length) : eqF p l m = false := by
 cases e : eqF p l m with
 | false => rfl
 | true => exact absurd (eqF_len e) h
theorem eqF_step {α : Type} {p : α → α → Bool} {l m : List α} {k : Nat} (h1 : k < l.length) (h2 : k < m.length) : eqF p (l.drop k) (m.drop k) = (p l[k] m[k] && eqF p (l.drop (k + 1)) (m.drop (k + 1))) := by
 rw [List.drop_eq_getElem_cons h1, List.drop_eq_getElem_cons h2, eqF]
theorem sameLE_eqF : ∀ l m : List Ex, sameLE l m = eqF sameE l m
 | [], [] => by simp [sameLE, eqF]
 | [], _ :: _ => by simp [sameLE, eqF]
 | _ :: _, [] => by simp [sameLE, eqF]
 | x :: l, y :: m => by rw [sameLE, eqF, sameLE_eqF l m]
theorem sameAs_eqF : ∀ l m : List As, sameAs l m = eqF sameA l m
 | [], [] => by simp [sameAs, eqF]
 | [], _ :: _ => by simp [sameAs, eqF]
 | _ :: _, [] => by simp [sameAs, eqF]
 | x :: l, y :: m => by rw [sameAs, eqF, sameAs_eqF l m]
theorem sameCs_eqF : ∀ l m : List Ch, sameCs l m = eqF sameC l m
 | [], [] => by simp [sameCs, eqF]
 | [], _ :: _ => by simp [sameCs, eqF]
 | _ :: _, [] => by simp [sameCs, eqF]
 | x :: l, y :: m => by rw [sameCs, eqF, sameCs_eqF l m]
theorem sameA_eq (x y : As) : sameA x y = (sameCs x.c y.c && sameE x.e y.e) := by cases x; rw [sameA]; rfl
theorem sameC_eq (x y : Ch) : sameC x y = (decide (x.kind = y.kind) && sameLE x.l y.l) := by cases x; rw [sameC]; rfl
theorem equalEx (G : Nat → DVal) (H : DHeap) (p : Ex → Ex → Bool) (l m : List Ex) (g : FuncId) (hl : l.length ≤ 1099511627776)
  (hp : ∀ x ∈ l, ∀ y ∈ m, ∀ H, DCalls Tryz.prog G g ([] ++ [.agg (dEx x), .agg (dEx y)] ++ []) H (DRet (.bool (p x y)) H)) :
  DCalls Tryz.prog G 71 [.vslice (l.flatMap dEx) l.length, .vslice (m.flatMap dEx) m.length, .func (.func g) [] []] H (DRet (.bool (eqF p l m)) H) := by
 refine dcalls_intro Tryz.func71 Tryz.call71 rfl (by kernel_rfl) ?_;by_cases hlen : l.length = m.length
 ·have hlen' : (l.length : Int) = (m.length : Int) := by omega
  simp (disch := omega) only [go_sem, hlen'];obtain ⟨I, hI⟩ : ∃ I : Nat → (Nat → DVal) → DHeap → Prop, ∀ k env heap, I k env heap ↔ (env 0 = .vslice (l.flatMap dEx) l.length ∧ env 1 = .vslice (m.flatMap dEx) m.length ∧ env 2 = .func (.func g) [] [] ∧ env 15 = .vslice (l.flatMap dEx) l.length ∧ env 16 = dI m.length ∧ env 17 = dI k ∧ k ≤ l.length ∧ eqF p l m = eqF p (l.drop k) (m.drop k) ∧ Sub H heap) := ⟨_, fun _ _ _ => Iff.rfl⟩;refine DLoop.run I (fun k => l.length - k) 0 ((hI _ _ _).2 ?_) ?_
  ·simp (disch := omega) only [go_sem];(repeat' apply And.intro) <;> (try first | rfl | assumption | omega);exact Sub.refl _
  ·intro k env heap hi;obtain ⟨e0, e1, e2, e15, e16, e17, hk, hsm, hsub⟩ := (hI _ _ _).1 hi;have hfl := flat_len dEx_len l;have hfm := flat_len dEx_len m;by_cases hlt : k < l.length
   ·have hlt' : (k : Int) < (m.length : Int) := by omega
    have hlt2 : (k : Int) < (l.length : Int) := by omega
    have hkm : k < m.length := by omega
    have hget := flat_el dEx_len l k hlt;have hgetm := flat_el dEx_len m k hkm;have hwd : IntKind.i64.wrap ((k : Int) + 1) = ((k + 1 : Nat) : Int) := by rw [IntKind.wrap_i64]; omega
    simp (disch := omega) only [go_sem, e0, e1, e2, e15, e16, e17, hlt', hlt2, hget, hgetm, hfl, hfm, Int.toNat_natCast];intro r8 hr8; dsimp only at hr8;simp (disch := omega) only [go_sem, e0, e1, e2, e15, e16, e17, hlt', hlt2, hget, hgetm, hfl, hfm, Int.toNat_natCast];intro r9 hr9; dsimp only at hr9;obtain ⟨m2, m1, hr9'⟩ := upd_eq_none.1 hr9;simp (disch := omega) only [go_sem, e0, e1, e2, e15, e16, e17, m1, m2, hget, hgetm, hfl, hfm, Int.toNat_natCast];refine (hp l[k] (List.getElem_mem hlt) m[k] (List.getElem_mem hkm) _).mono ?_;rintro _ H1 ⟨rfl, rfl⟩;rw [eqF_step hlt hkm] at hsm;have hs1 := (hsub.new hr8 (some (DObj.cells (dEx l[k]) 27))).new hr9 (some (DObj.cells (dEx m[k]) 27));cases hb : p l[k] m[k] with
    | true =>
     rw [hb, Bool.true_and] at hsm;simp (disch := omega) only [go_sem, e0, e1, e2, e15, e16, e17];refine ⟨k + 1, _, GhostS.refl _, (hI _ _ _).2 ?_, by omega⟩;simp (disch := omega) only [go_sem, e0, e1, e2, e15, e16, e17, hwd];(repeat' apply And.intro) <;> (try first | rfl | assumption | omega)
    | false =>
     rw [hb, Bool.false_and] at hsm;simp (disch := omega) only [go_sem, e0, e1, e2, e15, e16, e17];exact DFin.sub hs1 (DFin.refl ⟨by rw [hsm], rfl⟩)
   ·have : k = l.length := by omega
    subst this;have hlt' : ¬ (l.length : Int) < (m.length : Int) := by omega
    simp (disch := omega) only [go_sem, e0, e1, e2, e15, e16, e17, hlt'];refine DFin.sub hsub (DFin.refl ⟨?_, rfl⟩);rw [hsm, List.drop_length, hlen, List.drop_length]; rfl
 ·have hlen' : ¬ (l.length : Int) = (m.length : Int) := by omega
  simp (disch := omega) only [go_sem, hlen'];exact DFin.refl ⟨by rw [eqF_ne hlen], rfl⟩
theorem equalAs (G : Nat → DVal) (H : DHeap) (p : As → As → Bool) (l m : List As) (g : FuncId) (hl : l.length ≤ 1099511627776)
  (hp : ∀ x ∈ l, ∀ y ∈ m, ∀ H, DCalls Tryz.prog G g ([] ++ [.agg (dAs x), .agg (dAs y)] ++ []) H (DRet (.bool (p x y)) H)) :
  DCalls Tryz.prog G 81 [.vslice (l.flatMap dAs) l.length, .vslice (m.flatMap dAs) m.length, .func (.func g) [] []] H (DRet (.bool (eqF p l m)) H) := by
 refine dcalls_intro Tryz.func81 Tryz.call81 rfl (by kernel_rfl) ?_;by_cases hlen : l.length = m.length
 ·have hlen' : (l.length : Int) = (m.length : Int) := by omega
  simp (disch := omega) only [go_sem, hlen'];obtain ⟨I, hI⟩ : ∃ I : Nat → (Nat → DVal) → DHeap → Prop, ∀ k env heap, I k env heap ↔ (env 0 = .vslice (l.flatMap dAs) l.length ∧ env 1 = .vslice (m.flatMap dAs) m.length ∧ env 2 = .func (.func g) [] [] ∧ env 15 = .vslice (l.flatMap dAs) l.length ∧ env 16 = dI m.length ∧ env 17 = dI k ∧ k ≤ l.length ∧ eqF p l m = eqF p (l.drop k) (m.drop k) ∧ Sub H heap) := ⟨_, fun _ _ _ => Iff.rfl⟩;refine DLoop.run I (fun k => l.length - k) 0 ((hI _ _ _).2 ?_) ?_
  ·simp (disch := omega) only [go_sem];(repeat' apply And.intro) <;> (try first | rfl | assumption | omega);exact Sub.refl _
  ·intro k env heap hi;obtain ⟨e0, e1, e2, e15, e16, e17, hk, hsm, hsub⟩ := (hI _ _ _).1 hi;have hfl := flat_len dAs_len l;have hfm := flat_len dAs_len m;by_cases hlt : k < l.length
   ·have hlt' : (k : Int) < (m.length : Int) := by omega
    have hlt2 : (k : Int) < (l.length : Int) := by omega
    have hkm : k < m.length := by omega
    have hget := flat_el dAs_len l k hlt;have hgetm := flat_el dAs_len m k hkm;have hwd : IntKind.i64.wrap ((k : Int) + 1) = ((k + 1 : Nat) : Int) := by rw [IntKind.wrap_i64]; omega
    simp (disch := omega) only [go_sem, e0, e1, e2, e15, e16, e17, hlt', hlt2, hget, hgetm, hfl, hfm, Int.toNat_natCast];intro r8 hr8; dsimp only at hr8;simp (disch := omega) only [go_sem, e0, e1, e2, e15, e16, e17, hlt', hlt2, hget, hgetm, hfl, hfm, Int.toNat_natCast];intro r9 hr9; dsimp only at hr9;obtain ⟨m2, m1, hr9'⟩ := upd_eq_none.1 hr9;simp (disch := omega) only [go_sem, e0, e1, e2, e15, e16, e17, m1, m2, hget, hgetm, hfl, hfm, Int.toNat_natCast];refine (hp l[k] (List.getElem_mem hlt) m[k] (List.getElem_mem hkm) _).mono ?_;rintro _ H1 ⟨rfl, rfl⟩;rw [eqF_step hlt hkm] at hsm;have hs1 := (hsub.new hr8 (some (DObj.cells (dAs l[k]) 47))).new hr9 (some (DObj.cells (dAs m[k]) 47));cases hb : p l[k] m[k] with
    | true =>
     rw [hb, Bool.true_and] at hsm;simp (disch := omega) only [go_sem, e0, e1, e2, e15, e16, e17];refine ⟨k + 1, _, GhostS.refl _, (hI _ _ _).2 ?_, by omega⟩;simp (disch := omega) only [go_sem, e0, e1, e2, e15, e16, e17, hwd];(repeat' apply And.intro) <;> (try first | rfl | assumption | omega)
    | false =>
     rw [hb, Bool.false_and] at hsm;simp (disch := omega) only [go_sem, e0, e1, e2, e15, e16, e17];exact DFin.sub hs1 (DFin.refl ⟨by rw [hsm], rfl⟩)
   ·have : k = l.length := by omega
    subst this;have hlt' : ¬ (l.length : Int) < (m.length : Int) := by omega
    simp (disch := omega) only [go_sem, e0, e1, e2, e15, e16, e17, hlt'];refine DFin.sub hsub (DFin.refl ⟨?_, rfl⟩);rw [hsm, List.drop_length, hlen, List.drop_length]; rfl
 ·have hlen' : ¬ (l.length : Int) = (m.length : Int) := by omega
  simp (disch := omega) only [go_sem, hlen'];exact DFin.refl ⟨by rw [eqF_ne hlen], rfl⟩
theorem equalCh (G : Nat → DVal) (H : DHeap) (p : Ch → Ch → Bool) (l m : List Ch) (g : FuncId) (hl : l.length ≤ 1099511627776)
  (hp : ∀ x ∈ l, ∀ y ∈ m, ∀ H, DCalls Tryz.prog G g ([] ++ [.agg (dCh x), .agg (dCh y)] ++ []) H (DRet (.bool (p x y)) H)) :
  DCalls Tryz.prog G 83 [.vslice (l.flatMap dCh) l.length, .vslice (m.flatMap dCh) m.length, .func (.func g) [] []] H (DRet (.bool (eqF p l m)) H) := by
 refine dcalls_intro Tryz.func83 Tryz.call83 rfl (by kernel_rfl) ?_;by_cases hlen : l.length = m.length
 ·have hlen' : (l.length : Int) = (m.length : Int) := by omega
  simp (disch := omega) only [go_sem, hlen'];obtain ⟨I, hI⟩ : ∃ I : Nat → (Nat → DVal) → DHeap → Prop, ∀ k env heap, I k env heap ↔ (env 0 = .vslice (l.flatMap dCh) l.length ∧ env 1 = .vslice (m.flatMap dCh) m.length ∧ env 2 = .func (.func g) [] [] ∧ env 15 = .vslice (l.flatMap dCh) l.length ∧ env 16 = dI m.length ∧ env 17 = dI k ∧ k ≤ l.length ∧ eqF p l m = eqF p (l.drop k) (m.drop k) ∧ Sub H heap) := ⟨_, fun _ _ _ => Iff.rfl⟩;refine DLoop.run I (fun k => l.length - k) 0 ((hI _ _ _).2 ?_) ?_
  ·simp (disch := omega) only [go_sem];(repeat' apply And.intro) <;> (try first | rfl | assumption | omega);exact Sub.refl _
  ·intro k env heap hi;obtain ⟨e0, e1, e2, e15, e16, e17, hk, hsm, hsub⟩ := (hI _ _ _).1 hi;have hfl := flat_len dCh_len l;have hfm := flat_len dCh_len m;by_cases hlt : k < l.length
   ·have hlt' : (k : Int) < (m.length : Int) := by omega
    have hlt2 : (k : Int) < (l.length : Int) := by omega
    have hkm : k < m.length := by omega
    have hget := flat_el dCh_len l k hlt;have hgetm := flat_el dCh_len m k hkm;have hwd : IntKind.i64.wrap ((k : Int) + 1) = ((k + 1 : Nat) : Int) := by rw [IntKind.wrap_i64]; omega
    simp (disch := omega) only [go_sem, e0, e1, e2, e15, e16, e17, hlt', hlt2, hget, hgetm, hfl, hfm, Int.toNat_natCast];intro r8 hr8; dsimp only at hr8;simp (disch := omega) only [go_sem, e0, e1, e2, e15, e16, e17, hlt', hlt2, hget, hgetm, hfl, hfm, Int.toNat_natCast];intro r9 hr9; dsimp only at hr9;obtain ⟨m2, m1, hr9'⟩ := upd_eq_none.1 hr9;simp (disch := omega) only [go_sem, e0, e1, e2, e15, e16, e17, m1, m2, hget, hgetm, hfl, hfm, Int.toNat_natCast];refine (hp l[k] (List.getElem_mem hlt) m[k] (List.getElem_mem hkm) _).mono ?_;rintro _ H1 ⟨rfl, rfl⟩;rw [eqF_step hlt hkm] at hsm;have hs1 := (hsub.new hr8 (some (DObj.cells (dCh l[k]) 71))).new hr9 (some (DObj.cells (dCh m[k]) 71));cases hb : p l[k] m[k] with
    | true =>
     rw [hb, Bool.true_and] at hsm;simp (disch := omega) only [go_sem, e0, e1, e2, e15, e16, e17];refine ⟨k + 1, _, GhostS.refl _, (hI _ _ _).2 ?_, by omega⟩;simp (disch := omega) only [go_sem, e0, e1, e2, e15, e16, e17, hwd];(repeat' apply And.intro) <;> (try first | rfl | assumption | omega)
    | false =>
     rw [hb, Bool.false_and] at hsm;simp (disch := omega) only [go_sem, e0, e1, e2, e15, e16, e17];exact DFin.sub hs1 (DFin.refl ⟨by rw [hsm], rfl⟩)
   ·have : k = l.length := by omega
    subst this;have hlt' : ¬ (l.length : Int) < (m.length : Int) := by omega
    simp (disch := omega) only [go_sem, e0, e1, e2, e15, e16, e17, hlt'];refine DFin.sub hsub (DFin.refl ⟨?_, rfl⟩);rw [hsm, List.drop_length, hlen, List.drop_length]; rfl
 ·have hlen' : ¬ (l.length : Int) = (m.length : Int) := by omega
  simp (disch := omega) only [go_sem, hlen'];exact DFin.refl ⟨by rw [eqF_ne hlen], rfl⟩
def SameOk (P : Program) (G : Nat → DVal) (f : FuncId) (x : Ex) : Prop := ∀ y H, DCalls P G f ([] ++ [.agg (dEx x), .agg (dEx y)] ++ []) H (DRet (.bool (sameE x y)) H)
theorem sameCh1_of (G : Nat → DVal) (H : DHeap) (x y : Ch) (hl : x.l.length ≤ 1099511627776) (hS : ∀ e ∈ x.l, SameOk Tryz.prog G 18 e) : DCalls Tryz.prog G 84 ([] ++ [.agg (dCh x), .agg (dCh y)] ++ []) H (DRet (.bool (sameC x y)) H) := by
 rw [sameC_eq, sameLE_eqF];refine dcalls_intro Tryz.func84 Tryz.call84 rfl (by kernel_rfl) ?_;simp (disch := omega) only [go_sem, DVal.cells, List.nil_append, List.append_nil];intro r2 hr2; dsimp only at hr2;simp (disch := omega) only [go_sem, DVal.cells];intro r3 hr3; dsimp only at hr3;obtain ⟨m2, m1, hr3'⟩ := upd_eq_none.1 hr3;by_cases h1 : x.kind = y.kind
 ·simp (disch := omega) only [go_sem, m1, m2, h1];refine (equalEx G _ sameE x.l y.l 18 hl fun e he f _ K => hS e he f K).mono ?_;rintro _ H1 ⟨rfl, rfl⟩;simp (disch := omega) only [go_sem];exact DFin.sub (show Sub H _ from (by repeat (first | exact Sub.refl _ | assumption | refine Sub.up ?_ (by assumption) _))) (DFin.refl ⟨by simp, rfl⟩)
 ·simp (disch := omega) only [go_sem, m1, m2, h1];exact DFin.sub (show Sub H _ from (by repeat (first | exact Sub.refl _ | assumption | refine Sub.up ?_ (by assumption) _))) (DFin.refl ⟨by simp, rfl⟩)
theorem sameCs_of (G : Nat → DVal) (H : DHeap) (l m : List Ch) (hl : bigCs l ≤ 1099511627776) (hS : ∀ e ∈ l.flatMap Ch.l, SameOk Tryz.prog G 18 e) : DCalls Tryz.prog G 30 [dCl l, dCl m] H (DRet (.bool (sameCs l m)) H) := by
 have hll := bigCs_len l;refine dcalls_intro Tryz.func30 Tryz.call30 rfl (by kernel_rfl) ?_;simp (disch := omega) only [go_sem, dCl];refine (equalCh G _ sameC l m 84 (by omega) fun c hc d _ K => sameCh1_of G K c d (by have := bigCs_mem hc; have := bigL_len c.l; rw [bigC_eq] at *; omega) fun e he => hS e (List.mem_flatMap.2 ⟨c, hc, he⟩)).mono ?_;rintro _ H1 ⟨rfl, rfl⟩;simp (disch := omega) only [go_sem];exact DFin.refl ⟨by rw [sameCs_eqF], rfl⟩
theorem sameAs1_of (G : Nat → DVal) (H : DHeap) (x y : As) (hl : bigA x ≤ 1099511627776) (hS : ∀ e ∈ partsA x, SameOk Tryz.prog G 18 e) : DCalls Tryz.prog G 82 ([] ++ [.agg (dAs x), .agg (dAs y)] ++ []) H (DRet (.bool (sameA x y)) H) := by
 have hb := bigA_eq x;have dx := dAs_1 x;have dy := dAs_1 y;rw [sameA_eq];refine dcalls_intro Tryz.func82 Tryz.call82 rfl (by kernel_rfl) ?_;simp (disch := omega) only [go_sem, DVal.cells, List.nil_append, List.append_nil];intro r2 hr2; dsimp only at hr2;simp (disch := omega) only [go_sem, DVal.cells];intro r3 hr3; dsimp only at hr3;obtain ⟨m2, m1, hr3'⟩ := upd_eq_none.1 hr3;simp (disch := omega) only [go_sem, m1, m2];refine (sameCs_of G _ x.c y.c (by omega) fun e he => hS e (List.mem_append_left _ he)).mono ?_;rintro _ H1 ⟨rfl, rfl⟩;cases h : sameCs x.c y.c with
 | false =>
  simp (disch := omega) only [go_sem, m1, m2];exact DFin.sub (show Sub H _ from (by repeat (first | exact Sub.refl _ | assumption | refine Sub.up ?_ (by assumption) _))) (DFin.refl ⟨by simp, rfl⟩)
 | true =>
  simp (disch := omega) only [go_sem, m1, m2, dx, dy];refine (hS x.e (mem_partsA_e x) y.e _).mono ?_;rintro _ H1 ⟨rfl, rfl⟩;simp (disch := omega) only [go_sem];exact DFin.sub (show Sub H _ from (by repeat (first | exact Sub.refl _ | assumption | refine Sub.up ?_ (by assumption) _))) (DFin.refl ⟨by simp, rfl⟩)
theorem sameArgs_of (G : Nat → DVal) (H : DHeap) (l m : List As) (hl : bigAs l ≤ 1099511627776) (hS : ∀ e ∈ l.flatMap partsA, SameOk Tryz.prog G 18 e) : DCalls Tryz.prog G 28 [dAl l, dAl m] H (DRet (.bool (sameAs l m)) H) := by
 have hll := bigAs_len l;refine dcalls_intro Tryz.func28 Tryz.call28 rfl (by kernel_rfl) ?_;simp (disch := omega) only [go_sem, dAl];refine (equalAs G _ sameA l m 82 (by omega) fun a ha b _ K => sameAs1_of G K a b (by have := bigAs_mem ha; omega) fun e he => hS e (List.mem_flatMap.2 ⟨a, ha, he⟩)).mono ?_;rintro _ H1 ⟨rfl, rfl⟩;simp (disch := omega) only [go_sem];exact DFin.refl ⟨by rw [sameAs_eqF], rfl⟩
theorem same_ok (G : Nat → DVal) : ∀ x : Ex, bigE x ≤ 1099511627776 → SameOk Tryz.prog G 18 x := by
 intro x
 induction x using Ex.ind with
 | h x ih =>
  intro hb y H;have hbe := bigE_eq x;have hbl := bigL_len x.l;have ih' : ∀ e ∈ parts x, SameOk Tryz.prog G 18 e := fun e he => ih e he (by have := bigE_parts he; omega);rw [sameE_eq, sameLE_eqF];refine dcalls_intro Tryz.func18 Tryz.call18 rfl (by kernel_rfl) ?_;simp (disch := omega) only [go_sem, DVal.cells, List.nil_append, List.append_nil];intro r2 hr2; dsimp only at hr2;simp (disch := omega) only [go_sem, DVal.cells];intro r3 hr3; dsimp only at hr3;obtain ⟨m2, m1, hr3'⟩ := upd_eq_none.1 hr3;by_cases h1 : x.kind = y.kind
  ·by_cases h2 : x.oper = y.oper
   ·by_cases h3 : x.n = y.n
    ·by_cases h4 : x.s = y.s
     ·simp (disch := omega) only [go_sem, m1, m2, h1, h2, h3, h4];refine (equalEx G _ sameE x.l y.l 18 (by omega) fun e he f _ K => ih' e (mem_parts_l he) f K).mono ?_;rintro _ H1 ⟨rfl, rfl⟩;cases h5 : eqF sameE x.l y.l with
      | true =>
       simp (disch := omega) only [go_sem, m1, m2];refine (sameArgs_of G _ x.a y.a (by omega) fun e he => ih' e (List.mem_append_right _ he)).mono ?_;rintro _ H1 ⟨rfl, rfl⟩;simp (disch := omega) only [go_sem];exact DFin.sub (show Sub H _ from (by repeat (first | exact Sub.refl _ | assumption | refine Sub.up ?_ (by assumption) _))) (DFin.refl ⟨by simp, rfl⟩)
      | false =>
       simp (disch := omega) only [go_sem, m1, m2];exact DFin.sub (show Sub H _ from (by repeat (first | exact Sub.refl _ | assumption | refine Sub.up ?_ (by assumption) _))) (DFin.refl ⟨by simp, rfl⟩)
     ·simp (disch := omega) only [go_sem, m1, m2, h1, h2, h3, h4];exact DFin.sub (show Sub H _ from (by repeat (first | exact Sub.refl _ | assumption | refine Sub.up ?_ (by assumption) _))) (DFin.refl ⟨by simp, rfl⟩)
    ·simp (disch := omega) only [go_sem, m1, m2, h1, h2, h3];exact DFin.sub (show Sub H _ from (by repeat (first | exact Sub.refl _ | assumption | refine Sub.up ?_ (by assumption) _))) (DFin.refl ⟨by simp, rfl⟩)
   ·simp (disch := omega) only [go_sem, m1, m2, h1, h2];exact DFin.sub (show Sub H _ from (by repeat (first | exact Sub.refl _ | assumption | refine Sub.up ?_ (by assumption) _))) (DFin.refl ⟨by simp, rfl⟩)
  ·simp (disch := omega) only [go_sem, m1, m2, h1];exact DFin.sub (show Sub H _ from (by repeat (first | exact Sub.refl _ | assumption | refine Sub.up ?_ (by assumption) _))) (DFin.refl ⟨by simp, rfl⟩)
theorem same_spec (G : Nat → DVal) (H : DHeap) (x y : Ex) (hx : bigE x ≤ 1099511627776) : DCalls Tryz.prog G 18 [.agg (dEx x), .agg (dEx y)] H (DRet (.bool (sameE x y)) H) := same_ok G x hx y H
def SizeR (x : Ex) (s : Int) (b : Bool) (s' : Int) : Prop := 0 ≤ s → s + sizeE x ≤ 4611686018427387904 → b = true ∧ s' = s + sizeE x
theorem run_size : ∀ (l : List Ex) (s : Int) (b : Bool) (s' : Int), RunR SizeR l s b s' → 0 ≤ s → s + sumE l ≤ 4611686018427387904 → b = true ∧ s' = s + sumE l
 | [], s, b, s', h, _, _ => by
  obtain ⟨rfl, rfl⟩ := h;exact ⟨rfl, by simp [sumE]⟩
 | x :: l, s, b, s', h, h0, h1 => by
  obtain ⟨b1, s1, hx, h⟩ := h;have hsum : sumE (x :: l) = sizeE x + sumE l := by simp [sumE]
  obtain ⟨rfl, rfl⟩ := hx h0 (by omega);rcases h with ⟨_, h⟩ | ⟨h, _⟩
  ·obtain ⟨k1, k2⟩ := run_size l _ b s' h (by omega) (by omega);exact ⟨k1, by rw [k2, hsum]; omega⟩
  ·cases h
theorem size_spec (G : Nat → DVal) : ∀ (e : Ex) (H : DHeap), bigE e ≤ 1099511627776 → DCalls Tryz.prog G 20 [.agg (dEx e)] H (DRet (dI (sizeE e)) H) := by
 intro e
 induction e using Ex.ind with
 | h e ih =>
  intro H hb;have hsz := size_bigE e;have hsum := sizeE_sum e;refine dcalls_intro Tryz.func20 Tryz.call20 rfl (by kernel_rfl) ?_;simp (disch := omega) only [go_sem, DVal.cells];intro r1 hr1; dsimp only at hr1;simp (disch := omega) only [go_sem, DVal.cells];intro r3 hr3; dsimp only at hr3;obtain ⟨m1, m2, hr3'⟩ := upd_eq_none.1 hr3;simp (disch := omega) only [go_sem, m1, m2];have hs1 : Sub H (upd (upd H r1 (some (.cells (dEx e) 27))) r3 (some (intO 1))) := ((Sub.refl H).new hr1 _).new hr3 _;refine (each_spec G _ e hb 72 [] [.optr r3 0] SizeR r3 1 (upd_same _ _ _) fun x hx s K hK hT => ?_).mono ?_
  ·have hbx := bigE_parts hx;unfold intO at hK;refine dcalls_intro Tryz.func72 Tryz.call72 rfl (by kernel_rfl) ?_;simp (disch := omega) only [go_sem, DVal.cells, List.nil_append, List.cons_append];intro q hq; dsimp only at hq;have n1 : r3 ≠ q := none_ne hq hK;have n2 : q ≠ r3 := n1.symm;simp (disch := omega) only [go_sem, n1, n2, hK];refine dwp_draws (by kernel_rfl) (.take 0 (.take 1 (.go 2 [0] (.take 3 (.go 4 [] .done))))) (by kernel_rfl) ?_;simp (disch := omega) only [go_sem, n1, n2, hK];refine (ih x hx _ (by omega)).mono ?_;rintro _ H2 ⟨rfl, rfl⟩;simp (disch := omega) only [go_sem, n1, n2, hK];refine DFin.refl ⟨true, _, rfl, fun h0 h1 => ⟨rfl, ?_⟩, upd_same _ _ _, ((Turn.refl r3 _).new hq _).set _⟩;rw [IntKind.wrap_i64]; omega
  ·rintro _ H7 ⟨b, t, rfl, hR, ht, hT⟩;unfold intO at ht;obtain ⟨_, w2⟩ := run_size _ _ _ _ hR (by decide) (by omega);simp (disch := omega) only [go_sem, ht];refine DFin.sub (hT.sub hs1 hr3') (DFin.refl ⟨?_, rfl⟩);have e1 : t = (sizeE e : Int) := by rw [w2, hsum]; omega
   rw [e1]
end Go.Dl

-- Chapter 3: the reference's Same, SameArgs, SameChoices; Level (printed by gen_ub.py).
namespace Go.Dl
open Go Go.Proofs
set_option maxRecDepth 100000
section
variable {G : Nat → DVal} {H : DHeap}
theorem level_spec (G : Nat → DVal) (H : DHeap) (e : Ex) : DCalls Tryz.prog G 15 [.agg (dEx e)] H (DRet (dI (levelE e)) H) := by
 refine dcalls_intro Tryz.func15 Tryz.call15 rfl (by kernel_rfl) ?_;simp (disch := omega) only [go_sem, DVal.cells];intro r hr; dsimp only at hr;by_cases k13 : e.kind = 13
 ·skip
  simp (disch := omega) only [go_sem, k13];exact DFin.dropA r hr (DFin.refl ⟨by simp [levelE, k13], rfl⟩)
 by_cases k14 : e.kind = 14
 ·skip
  simp (disch := omega) only [go_sem, k13, k14];exact DFin.dropA r hr (DFin.refl ⟨by simp [levelE, k13, k14], rfl⟩)
 by_cases k11 : e.kind = 11
 ·by_cases o18 : e.oper = 18
  ·skip
   simp (disch := omega) only [go_sem, k11, o18];exact DFin.dropA r hr (DFin.refl ⟨by simp [levelE, k11, o18], rfl⟩)
  by_cases o19 : e.oper = 19
  ·skip
   simp (disch := omega) only [go_sem, k11, o18, o19];exact DFin.dropA r hr (DFin.refl ⟨by simp [levelE, k11, o18, o19], rfl⟩)
  by_cases o20 : e.oper = 20
  ·skip
   simp (disch := omega) only [go_sem, k11, o18, o19, o20];exact DFin.dropA r hr (DFin.refl ⟨by simp [levelE, k11, o18, o19, o20], rfl⟩)
  by_cases o21 : e.oper = 21
  ·skip
   simp (disch := omega) only [go_sem, k11, o18, o19, o20, o21];exact DFin.dropA r hr (DFin.refl ⟨by simp [levelE, k11, o18, o19, o20, o21], rfl⟩)
  simp (disch := omega) only [go_sem, k11, o18, o19, o20, o21];exact DFin.dropA r hr (DFin.refl ⟨by simp [levelE, k11, o18, o19, o20, o21], rfl⟩)
 by_cases k12 : e.kind = 12
 ·by_cases a1 : 13 ≤ e.oper
  ·by_cases a2 : e.oper ≤ 17
   ·skip
    simp (disch := omega) only [go_sem, k12, k11, a1, a2];refine DFin.dropA r hr (DFin.refl ⟨?_, rfl⟩);congr 2;rw [levelE, if_neg (by omega), if_neg (by omega), if_pos (by omega)];(repeat (first | rfl | rw [if_pos (by omega)] | rw [if_neg (by omega)]))
   ·have b1 : 7 ≤ e.oper := by omega
    have b2 : ¬ e.oper ≤ 12 := by omega
    have c1 : 3 ≤ e.oper := by omega
    have c2 : ¬ e.oper ≤ 6 := by omega
    have x1 : ¬ e.oper = 1 := by omega
    have x2 : ¬ e.oper = 2 := by omega
    simp (disch := omega) only [go_sem, k12, k11, a1, a2, b1, b2, x1, x2, c1, c2];refine DFin.dropA r hr (DFin.refl ⟨?_, rfl⟩);congr 2;rw [levelE, if_neg (by omega), if_neg (by omega), if_pos (by omega)];(repeat (first | rfl | rw [if_pos (by omega)] | rw [if_neg (by omega)]))
  ·by_cases b1 : 7 ≤ e.oper
   ·have b2 : e.oper ≤ 12 := by omega
    simp (disch := omega) only [go_sem, k12, k11, a1, b1, b2];refine DFin.dropA r hr (DFin.refl ⟨?_, rfl⟩);congr 2;rw [levelE, if_neg (by omega), if_neg (by omega), if_pos (by omega)];(repeat (first | rfl | rw [if_pos (by omega)] | rw [if_neg (by omega)]))
   ·by_cases x1 : e.oper = 1
    ·skip
     simp (disch := omega) only [go_sem, k12, k11, x1];refine DFin.dropA r hr (DFin.refl ⟨?_, rfl⟩);congr 2;rw [levelE, if_neg (by omega), if_neg (by omega), if_pos (by omega)];(repeat (first | rfl | rw [if_pos (by omega)] | rw [if_neg (by omega)]))
    by_cases x2 : e.oper = 2
    ·skip
     simp (disch := omega) only [go_sem, k12, k11, x2];refine DFin.dropA r hr (DFin.refl ⟨?_, rfl⟩);congr 2;rw [levelE, if_neg (by omega), if_neg (by omega), if_pos (by omega)];(repeat (first | rfl | rw [if_pos (by omega)] | rw [if_neg (by omega)]))
    by_cases c1 : 3 ≤ e.oper
    ·have c2 : e.oper ≤ 6 := by omega
     simp (disch := omega) only [go_sem, k12, k11, a1, b1, x1, x2, c1, c2];refine DFin.dropA r hr (DFin.refl ⟨?_, rfl⟩);congr 2;rw [levelE, if_neg (by omega), if_neg (by omega), if_pos (by omega)];(repeat (first | rfl | rw [if_pos (by omega)] | rw [if_neg (by omega)]))
    ·skip
     simp (disch := omega) only [go_sem, k12, k11, a1, b1, x1, x2, c1];refine DFin.dropA r hr (DFin.refl ⟨?_, rfl⟩);congr 2;rw [levelE, if_neg (by omega), if_neg (by omega), if_pos (by omega)];(repeat (first | rfl | rw [if_pos (by omega)] | rw [if_neg (by omega)]))
 simp (disch := omega) only [go_sem, k11, k12, k13, k14];exact DFin.dropA r hr (DFin.refl ⟨by simp [levelE, k11, k12, k13, k14], rfl⟩)
end
end Go.Dl

-- Chapter 3: the reference: what is valid: arguments, choices, associations.
namespace Go.Dl
open Go Go.Proofs
set_option maxRecDepth 100000
def plainE (e : Ex) (o n s a : Bool) : Bool := (o || zO e) && (n || zN e) && (s || zS e) && (a || zA e)
section
variable {G : Nat → DVal} {H : DHeap}
theorem rmonadic_spec (G : Nat → DVal) (H : DHeap) (o : Int) : DCalls Tryz.prog G 169 [.int .u8 o] H (DRet (.bool (decide (18 ≤ o) && decide (o ≤ 21))) H) := by
 refine dcalls_intro Tryz.func169 Tryz.call169 rfl (by kernel_rfl) ?_;by_cases h : 18 ≤ o
 ·simp (disch := omega) only [go_sem, h];exact DFin.refl ⟨by simp, rfl⟩
 ·simp (disch := omega) only [go_sem, h];exact DFin.refl ⟨by simp, rfl⟩
theorem rdyadic_spec (G : Nat → DVal) (H : DHeap) (o : Int) : DCalls Tryz.prog G 170 [.int .u8 o] H (DRet (.bool (decide (1 ≤ o) && decide (o ≤ 17))) H) := by
 refine dcalls_intro Tryz.func170 Tryz.call170 rfl (by kernel_rfl) ?_;by_cases h : 1 ≤ o
 ·simp (disch := omega) only [go_sem, h];exact DFin.refl ⟨by simp, rfl⟩
 ·simp (disch := omega) only [go_sem, h];exact DFin.refl ⟨by simp, rfl⟩
theorem rplain_spec (G : Nat → DVal) (H : DHeap) (e : Ex) (o n s a : Bool) : DCalls Tryz.prog G 165 [.agg (dEx e), .bool o, .bool n, .bool s, .bool a] H (DRet (.bool (plainE e o n s a)) H) := by
 refine dcalls_intro Tryz.func165 Tryz.call165 rfl (by kernel_rfl) ?_;simp (disch := omega) only [go_sem, DVal.cells];intro r hr; dsimp only at hr;have fin : ∀ b, b = plainE e o n s a → DFin (DRet (.bool (plainE e o n s a)) H) (.bool b) (upd H r (some (.cells (dEx e) 27))) := fun b hb => DFin.dropA r hr (DFin.refl ⟨by rw [hb], rfl⟩);cases o with
 | true =>
  cases n with
  | true =>
   cases s with
   | true =>
    cases a with
    | true =>
     simp (disch := omega) only [go_sem];exact fin _ (by simp [plainE, zO, zN, zS, zA, isEmpty_len])
    | false =>
     by_cases h4 : e.a.length = 0
     ·have h4' : (e.a.length : Int) = 0 := by omega
      have y4 : e.a = [] := List.length_eq_zero_iff.1 h4;simp (disch := omega) only [go_sem, h4'];exact fin _ (by simp [plainE, zO, zN, zS, zA, isEmpty_len, y4])
     ·have h4' : ¬ ((e.a.length : Int) = 0) := by omega
      have y4 : ¬ e.a = [] := fun e4 => h4 (by rw [e4]; rfl);simp (disch := omega) only [go_sem, h4'];exact fin _ (by simp [plainE, zO, zN, zS, zA, isEmpty_len, y4])
   | false =>
    by_cases h3 : e.s = []
    ·skip
     cases a with
     | true =>
      simp (disch := omega) only [go_sem, h3];exact fin _ (by simp [plainE, zO, zN, zS, zA, isEmpty_len, h3])
     | false =>
      by_cases h4 : e.a.length = 0
      ·have h4' : (e.a.length : Int) = 0 := by omega
       have y4 : e.a = [] := List.length_eq_zero_iff.1 h4;simp (disch := omega) only [go_sem, h3, h4'];exact fin _ (by simp [plainE, zO, zN, zS, zA, isEmpty_len, h3, y4])
      ·have h4' : ¬ ((e.a.length : Int) = 0) := by omega
       have y4 : ¬ e.a = [] := fun e4 => h4 (by rw [e4]; rfl);simp (disch := omega) only [go_sem, h3, h4'];exact fin _ (by simp [plainE, zO, zN, zS, zA, isEmpty_len, h3, y4])
    ·skip
     simp (disch := omega) only [go_sem, h3];exact fin _ (by simp [plainE, zO, zN, zS, zA, isEmpty_len, h3])
  | false =>
   by_cases h2 : e.n = 0
   ·skip
    cases s with
    | true =>
     cases a with
     | true =>
      simp (disch := omega) only [go_sem, h2];exact fin _ (by simp [plainE, zO, zN, zS, zA, isEmpty_len, h2])
     | false =>
      by_cases h4 : e.a.length = 0
      ·have h4' : (e.a.length : Int) = 0 := by omega
       have y4 : e.a = [] := List.length_eq_zero_iff.1 h4;simp (disch := omega) only [go_sem, h2, h4'];exact fin _ (by simp [plainE, zO, zN, zS, zA, isEmpty_len, h2, y4])
      ·have h4' : ¬ ((e.a.length : Int) = 0) := by omega
       have y4 : ¬ e.a = [] := fun e4 => h4 (by rw [e4]; rfl);simp (disch := omega) only [go_sem, h2, h4'];exact fin _ (by simp [plainE, zO, zN, zS, zA, isEmpty_len, h2, y4])
    | false =>
     by_cases h3 : e.s = []
     ·skip
      cases a with
      | true =>
       simp (disch := omega) only [go_sem, h2, h3];exact fin _ (by simp [plainE, zO, zN, zS, zA, isEmpty_len, h2, h3])
      | false =>
       by_cases h4 : e.a.length = 0
       ·have h4' : (e.a.length : Int) = 0 := by omega
        have y4 : e.a = [] := List.length_eq_zero_iff.1 h4;simp (disch := omega) only [go_sem, h2, h3, h4'];exact fin _ (by simp [plainE, zO, zN, zS, zA, isEmpty_len, h2, h3, y4])
       ·have h4' : ¬ ((e.a.length : Int) = 0) := by omega
        have y4 : ¬ e.a = [] := fun e4 => h4 (by rw [e4]; rfl);simp (disch := omega) only [go_sem, h2, h3, h4'];exact fin _ (by simp [plainE, zO, zN, zS, zA, isEmpty_len, h2, h3, y4])
     ·skip
      simp (disch := omega) only [go_sem, h2, h3];exact fin _ (by simp [plainE, zO, zN, zS, zA, isEmpty_len, h2, h3])
   ·skip
    simp (disch := omega) only [go_sem, h2];exact fin _ (by simp [plainE, zO, zN, zS, zA, isEmpty_len, h2])
 | false =>
  by_cases h1 : e.oper = 0
  ·skip
   cases n with
   | true =>
    cases s with
    | true =>
     cases a with
     | true =>
      simp (disch := omega) only [go_sem, h1];exact fin _ (by simp [plainE, zO, zN, zS, zA, isEmpty_len, h1])
     | false =>
      by_cases h4 : e.a.length = 0
      ·have h4' : (e.a.length : Int) = 0 := by omega
       have y4 : e.a = [] := List.length_eq_zero_iff.1 h4;simp (disch := omega) only [go_sem, h1, h4'];exact fin _ (by simp [plainE, zO, zN, zS, zA, isEmpty_len, h1, y4])
      ·have h4' : ¬ ((e.a.length : Int) = 0) := by omega
       have y4 : ¬ e.a = [] := fun e4 => h4 (by rw [e4]; rfl);simp (disch := omega) only [go_sem, h1, h4'];exact fin _ (by simp [plainE, zO, zN, zS, zA, isEmpty_len, h1, y4])
    | false =>
     by_cases h3 : e.s = []
     ·skip
      cases a with
      | true =>
       simp (disch := omega) only [go_sem, h1, h3];exact fin _ (by simp [plainE, zO, zN, zS, zA, isEmpty_len, h1, h3])
      | false =>
       by_cases h4 : e.a.length = 0
       ·have h4' : (e.a.length : Int) = 0 := by omega
        have y4 : e.a = [] := List.length_eq_zero_iff.1 h4;simp (disch := omega) only [go_sem, h1, h3, h4'];exact fin _ (by simp [plainE, zO, zN, zS, zA, isEmpty_len, h1, h3, y4])
       ·have h4' : ¬ ((e.a.length : Int) = 0) := by omega
        have y4 : ¬ e.a = [] := fun e4 => h4 (by rw [e4]; rfl);simp (disch := omega) only [go_sem, h1, h3, h4'];exact fin _ (by simp [plainE, zO, zN, zS, zA, isEmpty_len, h1, h3, y4])
     ·skip
      simp (disch := omega) only [go_sem, h1, h3];exact fin _ (by simp [plainE, zO, zN, zS, zA, isEmpty_len, h1, h3])
   | false =>
    by_cases h2 : e.n = 0
    ·skip
     cases s with
     | true =>
      cases a with
      | true =>
       simp (disch := omega) only [go_sem, h1, h2];exact fin _ (by simp [plainE, zO, zN, zS, zA, isEmpty_len, h1, h2])
      | false =>
       by_cases h4 : e.a.length = 0
       ·have h4' : (e.a.length : Int) = 0 := by omega
        have y4 : e.a = [] := List.length_eq_zero_iff.1 h4;simp (disch := omega) only [go_sem, h1, h2, h4'];exact fin _ (by simp [plainE, zO, zN, zS, zA, isEmpty_len, h1, h2, y4])
       ·have h4' : ¬ ((e.a.length : Int) = 0) := by omega
        have y4 : ¬ e.a = [] := fun e4 => h4 (by rw [e4]; rfl);simp (disch := omega) only [go_sem, h1, h2, h4'];exact fin _ (by simp [plainE, zO, zN, zS, zA, isEmpty_len, h1, h2, y4])
     | false =>
      by_cases h3 : e.s = []
      ·skip
       cases a with
       | true =>
        simp (disch := omega) only [go_sem, h1, h2, h3];exact fin _ (by simp [plainE, zO, zN, zS, zA, isEmpty_len, h1, h2, h3])
       | false =>
        by_cases h4 : e.a.length = 0
        ·have h4' : (e.a.length : Int) = 0 := by omega
         have y4 : e.a = [] := List.length_eq_zero_iff.1 h4;simp (disch := omega) only [go_sem, h1, h2, h3, h4'];exact fin _ (by simp [plainE, zO, zN, zS, zA, isEmpty_len, h1, h2, h3, y4])
        ·have h4' : ¬ ((e.a.length : Int) = 0) := by omega
         have y4 : ¬ e.a = [] := fun e4 => h4 (by rw [e4]; rfl);simp (disch := omega) only [go_sem, h1, h2, h3, h4'];exact fin _ (by simp [plainE, zO, zN, zS, zA, isEmpty_len, h1, h2, h3, y4])
      ·skip
       simp (disch := omega) only [go_sem, h1, h2, h3];exact fin _ (by simp [plainE, zO, zN, zS, zA, isEmpty_len, h1, h2, h3])
    ·skip
     simp (disch := omega) only [go_sem, h1, h2];exact fin _ (by simp [plainE, zO, zN, zS, zA, isEmpty_len, h1, h2])
  ·skip
   simp (disch := omega) only [go_sem, h1];exact fin _ (by simp [plainE, zO, zN, zS, zA, isEmpty_len, h1])
theorem take_pair {l : List As} {k : Nat} (h : ∀ i (_ : i + 1 < k) (hi : i + 1 < l.length), (l[i].c.isEmpty || !l[i + 1].c.isEmpty) = true) (hk : k < l.length) (hx : ∀ (h0 : 0 < k), ((l[k - 1]'(by omega)).c.isEmpty || !l[k].c.isEmpty) = true) :
  ∀ i (_ : i + 1 < k + 1) (hi : i + 1 < l.length), (l[i].c.isEmpty || !l[i + 1].c.isEmpty) = true := fun i hi hil => by
 by_cases e : i + 1 < k
 ·exact h i e hil
 ·have : i + 1 = k := by omega
  subst this;exact hx (by omega)
theorem rfirst_spec (G : Nat → DVal) (H : DHeap) (l : List As) (hl : l.length ≤ 1099511627776) : DCalls Tryz.prog G 189 [.vslice (l.flatMap dAs) l.length] H (DRet (.bool (inOrd l)) H) := by
 refine dcalls_intro Tryz.func189 Tryz.call189 rfl (by kernel_rfl) ?_;simp (disch := omega) only [go_sem];obtain ⟨I, hI⟩ : ∃ I : Nat → (Nat → DVal) → DHeap → Prop, ∀ k env heap, I k env heap ↔ (env 0 = .vslice (l.flatMap dAs) l.length ∧ env 3 = dI k ∧ 1 ≤ k ∧ (k ≤ l.length ∨ k = 1) ∧ (∀ i (_ : i + 1 < k) (hi : i + 1 < l.length), (l[i].c.isEmpty || !l[i + 1].c.isEmpty) = true) ∧ heap = H) := ⟨_, fun _ _ _ => Iff.rfl⟩;refine DLoop.run I (fun k => l.length - k) 1 ((hI _ _ _).2 ?_) ?_
 ·simp (disch := omega) only [go_sem];(repeat' apply And.intro) <;> (try first | rfl | assumption | omega);all_goals first | exact .inr trivial | (intro i h1 h2; omega)
 ·intro k env heap hi;obtain ⟨e0, e3, hk1, hk, hn, rfl⟩ := (hI _ _ _).1 hi;have hfl := flat_len dAs_len l;by_cases hlt : k < l.length
  ·have hlt' : (k : Int) < (l.length : Int) := by omega
   have gk := flat_get dAs_len l k hlt 0 (by decide);have gp := flat_get dAs_len l (k - 1) (by omega) 0 (by decide);rw [dAs_0, Nat.add_zero] at gk gp;have hwd : IntKind.i64.wrap ((k : Int) + 1) = ((k + 1 : Nat) : Int) := by rw [IntKind.wrap_i64]; omega
   have hwk : IntKind.i64.wrap ((k : Int) - 1) = ((k - 1 : Nat) : Int) := by rw [IntKind.wrap_i64]; omega
   have hkp : ((k - 1 : Nat) : Int) < (l.length : Int) := by omega
   by_cases q1 : l[k].c.length = 0
   ·have q1' : (l[k].c.length : Int) = 0 := by omega
    have y1 : l[k].c.isEmpty = true := by rw [isEmpty_len]; exact decide_eq_true q1
    by_cases q2 : 0 < l[k - 1].c.length
    ·have q2' : (0 : Int) < (l[k - 1].c.length : Int) := by omega
     have y2 : l[k - 1].c.isEmpty = false := by rw [isEmpty_len]; exact decide_eq_false (by omega)
     simp (disch := omega) only [go_sem, e0, e3, hlt', hfl, gk, gp, hwk, hkp, q1', q2', Int.toNat_natCast];refine DFin.refl ⟨?_, rfl⟩;have : inOrd l = false := by
      rw [← Bool.not_eq_true, inOrd_iff];intro h;have := h (k - 1) (by omega);rw [y2] at this;have e : k - 1 + 1 = k := by omega
      simp only [e] at this;rw [y1] at this;cases this
     rw [this]
    ·have q2' : ¬ (0 : Int) < (l[k - 1].c.length : Int) := by omega
     have y2 : l[k - 1].c.isEmpty = true := by rw [isEmpty_len]; exact decide_eq_true (by omega)
     simp (disch := omega) only [go_sem, e0, e3, hlt', hfl, gk, gp, hwk, hkp, q1', q2', Int.toNat_natCast];refine ⟨k + 1, _, GhostS.refl _, (hI _ _ _).2 ?_, by omega⟩;simp (disch := omega) only [go_sem, e0, e3, hwd];(repeat' apply And.intro) <;> (try first | rfl | assumption | omega);exact take_pair hn hlt fun _ => by rw [y2]; rfl
   ·have q1' : ¬ (l[k].c.length : Int) = 0 := by omega
    have y1 : l[k].c.isEmpty = false := by rw [isEmpty_len]; exact decide_eq_false q1
    simp (disch := omega) only [go_sem, e0, e3, hlt', hfl, gk, q1', Int.toNat_natCast];refine ⟨k + 1, _, GhostS.refl _, (hI _ _ _).2 ?_, by omega⟩;simp (disch := omega) only [go_sem, e0, e3, hwd];(repeat' apply And.intro) <;> (try first | rfl | assumption | omega);exact take_pair hn hlt fun _ => by rw [y1]; simp
  ·have hlt' : ¬ (k : Int) < (l.length : Int) := by omega
   simp (disch := omega) only [go_sem, e0, e3, hlt'];exact DFin.refl ⟨by rw [inOrd_iff.2 fun i h => hn i (by omega) h], rfl⟩
theorem rarguments_spec (G : Nat → DVal) (H : DHeap) (l : List As) (hl : l.length ≤ 1099511627776) : DCalls Tryz.prog G 167 [.vslice (l.flatMap dAs) l.length] H (DRet (.bool (argsOk l)) H) := by
 have hfl := flat_len dAs_len l;refine dcalls_intro Tryz.func167 Tryz.call167 rfl (by kernel_rfl) ?_;by_cases h1 : l.length < 1
 ·have h1' : (l.length : Int) < 1 := by omega
  simp (disch := omega) only [go_sem, h1'];exact DFin.refl ⟨by rw [argsOk, decide_eq_false (show ¬ 0 < l.length by omega), Bool.false_and, Bool.false_and, Bool.false_and], rfl⟩
 have h1' : ¬ (l.length : Int) < 1 := by omega
 by_cases h2 : 8 < l.length
 ·have h2' : (8 : Int) < (l.length : Int) := by omega
  simp (disch := omega) only [go_sem, h1', h2'];exact DFin.refl ⟨by rw [argsOk, decide_eq_false (show ¬ l.length ≤ 8 by omega), Bool.and_false, Bool.false_and, Bool.false_and], rfl⟩
 have h2' : ¬ (8 : Int) < (l.length : Int) := by omega
 simp (disch := omega) only [go_sem, h1', h2'];refine (rfirst_spec G _ l hl).mono ?_;rintro _ H1 ⟨rfl, rfl⟩;have hd : argsOk l = (inOrd l && l.all fun a => a.c.isEmpty || simpleCs a.c) := by
  rw [argsOk, decide_eq_true (show 0 < l.length by omega), decide_eq_true (show l.length ≤ 8 by omega), Bool.true_and, Bool.true_and]
 rw [hd];cases h3 : inOrd l with
 | false =>
  simp (disch := omega) only [go_sem];exact DFin.refl ⟨rfl, rfl⟩
 | true =>
  simp (disch := omega) only [go_sem];obtain ⟨I, hI⟩ : ∃ I : Nat → (Nat → DVal) → DHeap → Prop, ∀ k env heap, I k env heap ↔ (env 0 = .vslice (l.flatMap dAs) l.length ∧ env 3 = dI k ∧ k ≤ l.length ∧ (∀ a ∈ l.take k, (a.c.isEmpty || simpleCs a.c) = true) ∧ heap = H1) := ⟨_, fun _ _ _ => Iff.rfl⟩;refine DLoop.run I (fun k => l.length - k) 0 ((hI _ _ _).2 ?_) ?_
  ·simp (disch := omega) only [go_sem];(repeat' apply And.intro) <;> (try first | rfl | assumption | omega);intro a ha; simp at ha
  ·intro k env heap hi;obtain ⟨e0, e3, hk, hn, rfl⟩ := (hI _ _ _).1 hi;by_cases hlt : k < l.length
   ·have hlt' : (k : Int) < (l.length : Int) := by omega
    have gk := flat_get dAs_len l k hlt 0 (by decide);rw [dAs_0, Nat.add_zero] at gk;have hwd : IntKind.i64.wrap ((k : Int) + 1) = ((k + 1 : Nat) : Int) := by rw [IntKind.wrap_i64]; omega
    obtain ⟨a, ha⟩ : ∃ a, a = l[k] := ⟨_, rfl⟩;rw [← ha] at gk;have no : (a.c.isEmpty || simpleCs a.c) = false → (l.all fun a => a.c.isEmpty || simpleCs a.c) = false := fun h => by
     rw [List.all_eq_false]; exact ⟨l[k], List.getElem_mem hlt, by rw [← ha, h]; simp⟩
    have yes : (a.c.isEmpty || simpleCs a.c) = true → ∀ x ∈ l.take (k + 1), (x.c.isEmpty || simpleCs x.c) = true := fun h => take_next (p := fun x => (x.c.isEmpty || simpleCs x.c) = true) hlt hn (by rw [← ha]; exact h);have hfc := flat_len dCh_len a.c;by_cases q1 : 1 < a.c.length
    ·have q1' : (1 : Int) < (a.c.length : Int) := by omega
     have hs : (a.c.isEmpty || simpleCs a.c) = false := by
      rw [isEmpty_len, decide_eq_false (by omega), Bool.false_or];unfold simpleCs;split
      ·rename_i h; rw [h] at q1; simp at q1
      ·rfl
     simp (disch := omega) only [go_sem, e0, e3, hlt', hfl, gk, q1', Int.toNat_natCast];exact DFin.refl ⟨by rw [no hs], rfl⟩
    have q1' : ¬ (1 : Int) < (a.c.length : Int) := by omega
    by_cases q2 : a.c.length = 1
    ·have q2' : (a.c.length : Int) = 1 := by omega
     obtain ⟨g0, g1⟩ := ch0 (l := a.c) (by omega);obtain ⟨c, hc⟩ := List.length_eq_one_iff.1 q2;have ec : a.c[0] = c := by simp [hc]
     rw [ec] at g0 g1;have he : a.c.isEmpty = false := by rw [hc]; rfl
     by_cases q3 : c.kind = 1
     ·by_cases q4 : c.l.length = 1
      ·have q4' : (c.l.length : Int) = 1 := by omega
       have g2 := ex0k (l := c.l) (by omega);have hfe := flat_len dEx_len c.l;obtain ⟨x, hx⟩ := List.length_eq_one_iff.1 q4;have e : c.l[0] = x := by simp [hx]
       rw [e] at g2;have hs : simpleCs a.c = decide (x.kind = 3) := by rw [hc]; simp [simpleCs, q3, hx]
       by_cases q5 : x.kind = 3
       ·simp (disch := omega) only [go_sem, e0, e3, hlt', hfl, gk, q1', q2', g0, g1, q3, q4', g2, hfe, hfc, q5, Int.toNat_natCast];refine ⟨k + 1, _, GhostS.refl _, (hI _ _ _).2 ?_, by omega⟩;simp (disch := omega) only [go_sem, e0, e3, hwd];(repeat' apply And.intro) <;> (try first | rfl | assumption | omega);exact yes (by rw [hs, decide_eq_true q5, Bool.or_true])
       ·simp (disch := omega) only [go_sem, e0, e3, hlt', hfl, gk, q1', q2', g0, g1, q3, q4', g2, hfe, hfc, q5, Int.toNat_natCast];exact DFin.refl ⟨by rw [no (by rw [he, hs, decide_eq_false q5]; rfl)], rfl⟩
      ·have q4' : ¬ (c.l.length : Int) = 1 := by omega
       have hs : simpleCs a.c = false := by
        rw [hc, simpleCs];split
        ·rename_i hx; rw [hx] at q4; simp at q4
        ·simp
       simp (disch := omega) only [go_sem, e0, e3, hlt', hfl, gk, q1', q2', g0, g1, q3, q4', hfc, Int.toNat_natCast];exact DFin.refl ⟨by rw [no (by rw [he, hs]; rfl)], rfl⟩
     ·simp (disch := omega) only [go_sem, e0, e3, hlt', hfl, gk, q1', q2', g0, g1, q3, hfc, Int.toNat_natCast];exact DFin.refl ⟨by rw [no (by rw [he, hc]; simp [simpleCs, q3])], rfl⟩
    ·have q2' : ¬ (a.c.length : Int) = 1 := by omega
     simp (disch := omega) only [go_sem, e0, e3, hlt', hfl, gk, q1', q2', Int.toNat_natCast];refine ⟨k + 1, _, GhostS.refl _, (hI _ _ _).2 ?_, by omega⟩;simp (disch := omega) only [go_sem, e0, e3, hwd];(repeat' apply And.intro) <;> (try first | rfl | assumption | omega);exact yes (by rw [isEmpty_len, decide_eq_true (by omega), Bool.true_or])
   ·have : k = l.length := by omega
    subst this;rw [List.take_length] at hn;simp (disch := omega) only [go_sem, e0, e3];exact DFin.refl ⟨by simp [List.all_eq_true.2 hn], rfl⟩
theorem rchoices_spec (G : Nat → DVal) (H : DHeap) (l : List Ch) (hl : l.length ≤ 1099511627776) : DCalls Tryz.prog G 80 [.vslice (l.flatMap dCh) l.length] H (DRet (.bool (rightCs l)) H) := by
 have hfl := flat_len dCh_len l;refine dcalls_intro Tryz.func80 Tryz.call80 rfl (by kernel_rfl) ?_;by_cases h1 : l.length < 1
 ·have h1' : (l.length : Int) < 1 := by omega
  simp (disch := omega) only [go_sem, h1'];exact DFin.refl ⟨by rw [rightCs, decide_eq_false (show ¬ 0 < l.length by omega), Bool.false_and, Bool.false_and], rfl⟩
 have h1' : ¬ (l.length : Int) < 1 := by omega
 by_cases h2 : 16 < l.length
 ·have h2' : (16 : Int) < (l.length : Int) := by omega
  simp (disch := omega) only [go_sem, h1', h2'];exact DFin.refl ⟨by rw [rightCs, decide_eq_false (show ¬ l.length ≤ 16 by omega), Bool.and_false, Bool.false_and], rfl⟩
 have h2' : ¬ (16 : Int) < (l.length : Int) := by omega
 have hd : rightCs l = l.all (rightC l.length) := by
  rw [rightCs, decide_eq_true (show 0 < l.length by omega), decide_eq_true (show l.length ≤ 16 by omega), Bool.true_and, Bool.true_and]
 rw [hd];simp (disch := omega) only [go_sem, h1', h2'];obtain ⟨I, hI⟩ : ∃ I : Nat → (Nat → DVal) → DHeap → Prop, ∀ k env heap, I k env heap ↔ (env 0 = .vslice (l.flatMap dCh) l.length ∧ env 3 = dI k ∧ k ≤ l.length ∧ (∀ a ∈ l.take k, rightC l.length a = true) ∧ heap = H) := ⟨_, fun _ _ _ => Iff.rfl⟩;refine DLoop.run I (fun k => l.length - k) 0 ((hI _ _ _).2 ?_) ?_
 ·simp (disch := omega) only [go_sem];(repeat' apply And.intro) <;> (try first | rfl | assumption | omega);intro a ha; simp at ha
 ·intro k env heap hi;obtain ⟨e0, e3, hk, hn, rfl⟩ := (hI _ _ _).1 hi;by_cases hlt : k < l.length
  ·have hlt' : (k : Int) < (l.length : Int) := by omega
   have gk := flat_get dCh_len l k hlt 0 (by decide);have gl := flat_get dCh_len l k hlt 1 (by decide);rw [dCh_0, Nat.add_zero] at gk;rw [dCh_1] at gl;have hwd : IntKind.i64.wrap ((k : Int) + 1) = ((k + 1 : Nat) : Int) := by rw [IntKind.wrap_i64]; omega
   have no : rightC l.length l[k] = false → l.all (rightC l.length) = false := fun h => by
    rw [List.all_eq_false]; exact ⟨l[k], List.getElem_mem hlt, by rw [h]; simp⟩
   have yes : rightC l.length l[k] = true → ∀ x ∈ l.take (k + 1), rightC l.length x = true := fun h => take_next (p := fun x => rightC l.length x = true) hlt hn h;obtain ⟨c, hc⟩ : ∃ c, c = l[k] := ⟨_, rfl⟩;rw [← hc] at gk gl no yes;by_cases k1 : c.kind = 1
   ·by_cases q : c.l.length = 1
    ·have q' : (c.l.length : Int) = 1 := by omega
     simp (disch := omega) only [go_sem, e0, e3, hlt', hfl, gk, gl, k1, q', Int.toNat_natCast];refine ⟨k + 1, _, GhostS.refl _, (hI _ _ _).2 ?_, by omega⟩;simp (disch := omega) only [go_sem, e0, e3, hwd];(repeat' apply And.intro) <;> (try first | rfl | assumption | omega);exact yes (by simp [rightC, k1, q])
    ·have q' : ¬ (c.l.length : Int) = 1 := by omega
     simp (disch := omega) only [go_sem, e0, e3, hlt', hfl, gk, gl, k1, q', Int.toNat_natCast];exact DFin.refl ⟨by rw [no (by simp [rightC, k1, q])], rfl⟩
   by_cases k2 : c.kind = 2
   ·by_cases q : c.l.length = 2
    ·have q' : (c.l.length : Int) = 2 := by omega
     simp (disch := omega) only [go_sem, e0, e3, hlt', hfl, gk, gl, k2, q', Int.toNat_natCast];refine ⟨k + 1, _, GhostS.refl _, (hI _ _ _).2 ?_, by omega⟩;simp (disch := omega) only [go_sem, e0, e3, hwd];(repeat' apply And.intro) <;> (try first | rfl | assumption | omega);exact yes (by simp [rightC, k2, q])
    ·have q' : ¬ (c.l.length : Int) = 2 := by omega
     simp (disch := omega) only [go_sem, e0, e3, hlt', hfl, gk, gl, k2, q', Int.toNat_natCast];exact DFin.refl ⟨by rw [no (by simp [rightC, k2, q])], rfl⟩
   by_cases k3 : c.kind = 3
   ·by_cases q : c.l.length = 0
    ·have q' : (c.l.length : Int) = 0 := by omega
     by_cases q2 : 1 < l.length
     ·have q2' : (1 : Int) < (l.length : Int) := by omega
      simp (disch := omega) only [go_sem, e0, e3, hlt', hfl, gk, gl, k3, q', q2', Int.toNat_natCast];exact DFin.refl ⟨by rw [no (by simp [rightC, k3, q]; omega)], rfl⟩
     ·have q2' : ¬ (1 : Int) < (l.length : Int) := by omega
      simp (disch := omega) only [go_sem, e0, e3, hlt', hfl, gk, gl, k3, q', q2', Int.toNat_natCast];refine ⟨k + 1, _, GhostS.refl _, (hI _ _ _).2 ?_, by omega⟩;simp (disch := omega) only [go_sem, e0, e3, hwd];(repeat' apply And.intro) <;> (try first | rfl | assumption | omega);exact yes (by simp [rightC, k3, q]; omega)
    ·have q' : ¬ (c.l.length : Int) = 0 := by omega
     simp (disch := omega) only [go_sem, e0, e3, hlt', hfl, gk, gl, k3, q', Int.toNat_natCast];exact DFin.refl ⟨by rw [no (by simp [rightC, k3, q])], rfl⟩
   ·have q' : ¬ (c.l.length : Int) = -1 := by omega
    simp (disch := omega) only [go_sem, e0, e3, hlt', hfl, gk, gl, k1, k2, k3, q', Int.toNat_natCast];exact DFin.refl ⟨by rw [no (by simp [rightC, k1, k2, k3])], rfl⟩
  ·have : k = l.length := by omega
   subst this;rw [List.take_length] at hn;simp (disch := omega) only [go_sem, e0, e3];exact DFin.refl ⟨by rw [List.all_eq_true.2 hn], rfl⟩
end
end Go.Dl

-- Chapter 3: the reference: associations, fields (printed by gen_ud.py).
namespace Go.Dl
open Go Go.Proofs
set_option maxRecDepth 100000
section
variable {G : Nat → DVal} {H : DHeap}
theorem rassociations_spec (G : Nat → DVal) (H : DHeap) (l : List As) (hl : l.length ≤ 1099511627776) (hb : ∀ a ∈ l, a.c.length ≤ 1099511627776) : DCalls Tryz.prog G 168 [.vslice (l.flatMap dAs) l.length] H (DRet (.bool (assocsOk l)) H) := by
 refine dcalls_intro Tryz.func168 Tryz.call168 rfl (by kernel_rfl) ?_;by_cases h1 : l.length = 0
 ·have h1' : (l.length : Int) < 1 := by omega
  simp (disch := omega) only [go_sem, h1'];exact DFin.refl ⟨by rw [assocsOk, decide_eq_false (show ¬ 0 < l.length by omega), Bool.false_and, Bool.false_and, Bool.false_and, Bool.false_and], rfl⟩
 have h1' : ¬ (l.length : Int) < 1 := by omega
 have hpos : 0 < l.length := by omega
 by_cases h2 : 32 < l.length
 ·have h2' : (32 : Int) < (l.length : Int) := by omega
  simp (disch := omega) only [go_sem, h1', h2'];exact DFin.refl ⟨by rw [assocsOk, decide_eq_false (show ¬ l.length ≤ 32 by omega), Bool.and_false, Bool.false_and, Bool.false_and, Bool.false_and], rfl⟩
 have h2' : ¬ (32 : Int) < (l.length : Int) := by omega
 simp (disch := omega) only [go_sem, h1', h2'];refine (rfirst_spec G _ l hl).mono ?_;rintro _ H1 ⟨rfl, rfl⟩;have hd : assocsOk l = (inOrd l && (!(decide (l.length = 1) && (l.getD 0 default).c.isEmpty) && assocAll l)) := by
  rw [assocsOk, decide_eq_true hpos, decide_eq_true (show l.length ≤ 32 by omega), Bool.true_and, Bool.true_and, one_unnamed, Bool.and_assoc]
 rw [hd];cases h3 : inOrd l with
 | false =>
  simp (disch := omega) only [go_sem];exact DFin.refl ⟨rfl, rfl⟩
 | true =>
  have hg0 := as0 hpos;have hgd : l.getD 0 default = l[0] := by rw [List.getD, List.getElem?_eq_getElem hpos]; rfl
  have hfl := flat_len dAs_len l;rw [hgd];by_cases h4 : l.length = 1 ∧ l[0].c.length = 0
  ·have h4a : (l.length : Int) = 1 := by omega
   have h4b : (l[0].c.length : Int) = 0 := by omega
   have e4 : l[0].c.isEmpty = true := by rw [isEmpty_len]; exact decide_eq_true h4.2
   simp (disch := omega) only [go_sem, h4a, h4b, hg0, hfl];exact DFin.refl ⟨by simp [e4], rfl⟩
  ·have e4 : (decide (l.length = 1) && l[0].c.isEmpty) = false := by
    rw [isEmpty_len, ← Bool.decide_and]; exact decide_eq_false h4
   rw [e4];by_cases h5 : l.length = 1
   ·have h5' : ((l.length : Int) = 1) = True := eq_true (by omega);have h6' : ¬ (l[0].c.length : Int) = 0 := by omega
    simp (disch := omega) only [go_sem, h5', h6', hg0, hfl];obtain ⟨I, hI⟩ : ∃ I : Nat → (Nat → DVal) → DHeap → Prop, ∀ k env heap, I k env heap ↔ (env 0 = .vslice (l.flatMap dAs) l.length ∧ env 3 = dI k ∧ k ≤ l.length ∧ assocAll l = assocAll (l.drop k) ∧ heap = H1) := ⟨_, fun _ _ _ => Iff.rfl⟩;refine DLoop.run I (fun k => l.length - k) 0 ((hI _ _ _).2 ?_) ?_
    ·simp (disch := omega) only [go_sem];(repeat' apply And.intro) <;> (try first | rfl | assumption | omega)
    ·intro k env heap hi;obtain ⟨e0, e3, hk, hall, rfl⟩ := (hI _ _ _).1 hi;by_cases hlt : k < l.length
     ·have hlt' : (k : Int) < (l.length : Int) := by omega
      have gk := flat_get dAs_len l k hlt 0 (by decide);rw [dAs_0, Nat.add_zero] at gk;have hwd : IntKind.i64.wrap ((k : Int) + 1) = ((k + 1 : Nat) : Int) := by rw [IntKind.wrap_i64]; omega
      have hwl : IntKind.i64.wrap ((l.length : Int) - 1) = (l.length : Int) - 1 := by rw [IntKind.wrap_i64]; omega
      have hba := hb l[k] (List.getElem_mem hlt);rw [assoc_step hlt] at hall;by_cases q1 : 0 < l[k].c.length
      ·have q1' : (0 : Int) < (l[k].c.length : Int) := by omega
       have e1 : l[k].c.isEmpty = false := by rw [isEmpty_len]; exact decide_eq_false (by omega)
       rw [e1, Bool.false_or] at hall;simp (disch := omega) only [go_sem, e0, e3, hlt', hfl, gk, q1', Int.toNat_natCast];refine (rchoices_spec G _ l[k].c hba).mono ?_;rintro _ H2 ⟨rfl, rfl⟩;cases q2 : rightCs l[k].c with
       | false =>
        rw [q2, Bool.false_and, Bool.false_and] at hall;simp (disch := omega) only [go_sem, e0, e3];exact DFin.refl ⟨by rw [hall], rfl⟩
       | true =>
        obtain ⟨g0, _⟩ := ch0 q1;have hfc := flat_len dCh_len l[k].c;rw [q2, Bool.true_and, firstOthers_at q1] at hall;by_cases q3 : l[k].c[0].kind = 3
        ·rw [decide_eq_true q3, Bool.not_true, Bool.false_or] at hall;by_cases q4 : k + 1 = l.length
         ·have q4' : ¬ (k : Int) < (l.length : Int) - 1 := by omega
          rw [decide_eq_true q4, Bool.true_and] at hall;simp (disch := omega) only [go_sem, e0, e3, g0, hfc, q1', q3, q4', hwl];refine ⟨k + 1, _, GhostS.refl _, (hI _ _ _).2 ?_, by omega⟩;simp (disch := omega) only [go_sem, e0, e3, hwd];(repeat' apply And.intro) <;> (try first | rfl | assumption | omega)
         ·have q4' : (k : Int) < (l.length : Int) - 1 := by omega
          rw [decide_eq_false q4, Bool.false_and] at hall;simp (disch := omega) only [go_sem, e0, e3, g0, hfc, q1', q3, q4', hwl];exact DFin.refl ⟨by rw [hall], rfl⟩
        ·rw [decide_eq_false q3, Bool.not_false, Bool.true_or, Bool.true_and] at hall;simp (disch := omega) only [go_sem, e0, e3, g0, hfc, q1', q3];refine ⟨k + 1, _, GhostS.refl _, (hI _ _ _).2 ?_, by omega⟩;simp (disch := omega) only [go_sem, e0, e3, hwd];(repeat' apply And.intro) <;> (try first | rfl | assumption | omega)
      ·have q1' : ¬ (0 : Int) < (l[k].c.length : Int) := by omega
       have e1 : l[k].c.isEmpty = true := by rw [isEmpty_len]; exact decide_eq_true (by omega)
       rw [e1, Bool.true_or, Bool.true_and] at hall;simp (disch := omega) only [go_sem, e0, e3, hlt', hfl, gk, q1', Int.toNat_natCast];refine ⟨k + 1, _, GhostS.refl _, (hI _ _ _).2 ?_, by omega⟩;simp (disch := omega) only [go_sem, e0, e3, hwd];(repeat' apply And.intro) <;> (try first | rfl | assumption | omega)
     ·have : k = l.length := by omega
      subst this;rw [List.drop_length] at hall;simp (disch := omega) only [go_sem, e0, e3];exact DFin.refl ⟨by rw [hall]; rfl, rfl⟩
   ·have h5' : ¬ (l.length : Int) = 1 := by omega
    simp (disch := omega) only [go_sem, h5'];obtain ⟨I, hI⟩ : ∃ I : Nat → (Nat → DVal) → DHeap → Prop, ∀ k env heap, I k env heap ↔ (env 0 = .vslice (l.flatMap dAs) l.length ∧ env 3 = dI k ∧ k ≤ l.length ∧ assocAll l = assocAll (l.drop k) ∧ heap = H1) := ⟨_, fun _ _ _ => Iff.rfl⟩;refine DLoop.run I (fun k => l.length - k) 0 ((hI _ _ _).2 ?_) ?_
    ·simp (disch := omega) only [go_sem];(repeat' apply And.intro) <;> (try first | rfl | assumption | omega)
    ·intro k env heap hi;obtain ⟨e0, e3, hk, hall, rfl⟩ := (hI _ _ _).1 hi;by_cases hlt : k < l.length
     ·have hlt' : (k : Int) < (l.length : Int) := by omega
      have gk := flat_get dAs_len l k hlt 0 (by decide);rw [dAs_0, Nat.add_zero] at gk;have hwd : IntKind.i64.wrap ((k : Int) + 1) = ((k + 1 : Nat) : Int) := by rw [IntKind.wrap_i64]; omega
      have hwl : IntKind.i64.wrap ((l.length : Int) - 1) = (l.length : Int) - 1 := by rw [IntKind.wrap_i64]; omega
      have hba := hb l[k] (List.getElem_mem hlt);rw [assoc_step hlt] at hall;by_cases q1 : 0 < l[k].c.length
      ·have q1' : (0 : Int) < (l[k].c.length : Int) := by omega
       have e1 : l[k].c.isEmpty = false := by rw [isEmpty_len]; exact decide_eq_false (by omega)
       rw [e1, Bool.false_or] at hall;simp (disch := omega) only [go_sem, e0, e3, hlt', hfl, gk, q1', Int.toNat_natCast];refine (rchoices_spec G _ l[k].c hba).mono ?_;rintro _ H2 ⟨rfl, rfl⟩;cases q2 : rightCs l[k].c with
       | false =>
        rw [q2, Bool.false_and, Bool.false_and] at hall;simp (disch := omega) only [go_sem, e0, e3];exact DFin.refl ⟨by rw [hall], rfl⟩
       | true =>
        obtain ⟨g0, _⟩ := ch0 q1;have hfc := flat_len dCh_len l[k].c;rw [q2, Bool.true_and, firstOthers_at q1] at hall;by_cases q3 : l[k].c[0].kind = 3
        ·rw [decide_eq_true q3, Bool.not_true, Bool.false_or] at hall;by_cases q4 : k + 1 = l.length
         ·have q4' : ¬ (k : Int) < (l.length : Int) - 1 := by omega
          rw [decide_eq_true q4, Bool.true_and] at hall;simp (disch := omega) only [go_sem, e0, e3, g0, hfc, q1', q3, q4', hwl];refine ⟨k + 1, _, GhostS.refl _, (hI _ _ _).2 ?_, by omega⟩;simp (disch := omega) only [go_sem, e0, e3, hwd];(repeat' apply And.intro) <;> (try first | rfl | assumption | omega)
         ·have q4' : (k : Int) < (l.length : Int) - 1 := by omega
          rw [decide_eq_false q4, Bool.false_and] at hall;simp (disch := omega) only [go_sem, e0, e3, g0, hfc, q1', q3, q4', hwl];exact DFin.refl ⟨by rw [hall], rfl⟩
        ·rw [decide_eq_false q3, Bool.not_false, Bool.true_or, Bool.true_and] at hall;simp (disch := omega) only [go_sem, e0, e3, g0, hfc, q1', q3];refine ⟨k + 1, _, GhostS.refl _, (hI _ _ _).2 ?_, by omega⟩;simp (disch := omega) only [go_sem, e0, e3, hwd];(repeat' apply And.intro) <;> (try first | rfl | assumption | omega)
      ·have q1' : ¬ (0 : Int) < (l[k].c.length : Int) := by omega
       have e1 : l[k].c.isEmpty = true := by rw [isEmpty_len]; exact decide_eq_true (by omega)
       rw [e1, Bool.true_or, Bool.true_and] at hall;simp (disch := omega) only [go_sem, e0, e3, hlt', hfl, gk, q1', Int.toNat_natCast];refine ⟨k + 1, _, GhostS.refl _, (hI _ _ _).2 ?_, by omega⟩;simp (disch := omega) only [go_sem, e0, e3, hwd];(repeat' apply And.intro) <;> (try first | rfl | assumption | omega)
     ·have : k = l.length := by omega
      subst this;rw [List.drop_length] at hall;simp (disch := omega) only [go_sem, e0, e3];exact DFin.refl ⟨by rw [hall]; rfl, rfl⟩
theorem plain_ffff {e : Ex} (h : plainE e false false false false = true) : e.oper = 0 ∧ e.n = 0 ∧ e.s = [] ∧ e.a.length = 0 := by
 simpa [plainE, zO, zN, zS, zA, isEmpty_len, and_assoc] using h
theorem plain_ffft {e : Ex} (h : plainE e false false false true = true) : e.oper = 0 ∧ e.n = 0 ∧ e.s = [] := by
 simpa [plainE, zO, zN, zS, zA, isEmpty_len, and_assoc] using h
theorem plain_fftf {e : Ex} (h : plainE e false false true false = true) : e.oper = 0 ∧ e.n = 0 ∧ e.a.length = 0 := by
 simpa [plainE, zO, zN, zS, zA, isEmpty_len, and_assoc] using h
theorem plain_ftff {e : Ex} (h : plainE e false true false false = true) : e.oper = 0 ∧ e.s = [] ∧ e.a.length = 0 := by
 simpa [plainE, zO, zN, zS, zA, isEmpty_len, and_assoc] using h
theorem plain_tfff {e : Ex} (h : plainE e true false false false = true) : e.n = 0 ∧ e.s = [] ∧ e.a.length = 0 := by
 simpa [plainE, zO, zN, zS, zA, isEmpty_len, and_assoc] using h
theorem fields_no1 {e : Ex} (hk : e.kind = 1) (h : plainE e false true false false = false) : fieldsE e = false := by
 cases hf : fieldsE e with
 | false => rfl
 | true =>
  exfalso;unfold fieldsE at hf;simp only [hk, reduceIte, Int.reduceEq, or_false, or_true, false_or, true_or, Bool.and_eq_true] at hf;simp only [plainE, Bool.false_or, Bool.true_or, Bool.true_and, Bool.and_true] at h;simp [hf] at h
theorem fields_no2 {e : Ex} (hk : e.kind = 2) (h : plainE e false false false false = false) : fieldsE e = false := by
 cases hf : fieldsE e with
 | false => rfl
 | true =>
  exfalso;unfold fieldsE at hf;simp only [hk, reduceIte, Int.reduceEq, or_false, or_true, false_or, true_or, Bool.and_eq_true] at hf;simp only [plainE, Bool.false_or, Bool.true_or, Bool.true_and, Bool.and_true] at h;simp [hf] at h
theorem fields_no3 {e : Ex} (hk : e.kind = 3) (h : plainE e false false true false = false) : fieldsE e = false := by
 cases hf : fieldsE e with
 | false => rfl
 | true =>
  exfalso;unfold fieldsE at hf;simp only [hk, reduceIte, Int.reduceEq, or_false, or_true, false_or, true_or, Bool.and_eq_true] at hf;simp only [plainE, Bool.false_or, Bool.true_or, Bool.true_and, Bool.and_true] at h;simp [hf] at h
theorem fields_no4 {e : Ex} (hk : e.kind = 4) (h : plainE e false false true false = false) : fieldsE e = false := by
 cases hf : fieldsE e with
 | false => rfl
 | true =>
  exfalso;unfold fieldsE at hf;simp only [hk, reduceIte, Int.reduceEq, or_false, or_true, false_or, true_or, Bool.and_eq_true] at hf;simp only [plainE, Bool.false_or, Bool.true_or, Bool.true_and, Bool.and_true] at h;simp [hf] at h
theorem fields_no6 {e : Ex} (hk : e.kind = 6) (h : plainE e false false true false = false) : fieldsE e = false := by
 cases hf : fieldsE e with
 | false => rfl
 | true =>
  exfalso;unfold fieldsE at hf;simp only [hk, reduceIte, Int.reduceEq, or_false, or_true, false_or, true_or, Bool.and_eq_true] at hf;simp only [plainE, Bool.false_or, Bool.true_or, Bool.true_and, Bool.and_true] at h;simp [hf] at h
theorem fields_no5 {e : Ex} (hk : e.kind = 5) (h : plainE e false false false false = false) : fieldsE e = false := by
 cases hf : fieldsE e with
 | false => rfl
 | true =>
  exfalso;unfold fieldsE at hf;simp only [hk, reduceIte, Int.reduceEq, or_false, or_true, false_or, true_or, Bool.and_eq_true] at hf;simp only [plainE, Bool.false_or, Bool.true_or, Bool.true_and, Bool.and_true] at h;simp [hf] at h
theorem fields_no7 {e : Ex} (hk : e.kind = 7) (h : plainE e false false false true = false) : fieldsE e = false := by
 cases hf : fieldsE e with
 | false => rfl
 | true =>
  exfalso;unfold fieldsE at hf;simp only [hk, reduceIte, Int.reduceEq, or_false, or_true, false_or, true_or, Bool.and_eq_true] at hf;simp only [plainE, Bool.false_or, Bool.true_or, Bool.true_and, Bool.and_true] at h;simp [hf] at h
theorem fields_no8 {e : Ex} (hk : e.kind = 8) (h : plainE e false false false false = false) : fieldsE e = false := by
 cases hf : fieldsE e with
 | false => rfl
 | true =>
  exfalso;unfold fieldsE at hf;simp only [hk, reduceIte, Int.reduceEq, or_false, or_true, false_or, true_or, Bool.and_eq_true] at hf;simp only [plainE, Bool.false_or, Bool.true_or, Bool.true_and, Bool.and_true] at h;simp [hf] at h
theorem fields_no9 {e : Ex} (hk : e.kind = 9) (h : plainE e false false false true = false) : fieldsE e = false := by
 cases hf : fieldsE e with
 | false => rfl
 | true =>
  exfalso;unfold fieldsE at hf;simp only [hk, reduceIte, Int.reduceEq, or_false, or_true, false_or, true_or, Bool.and_eq_true] at hf;simp only [plainE, Bool.false_or, Bool.true_or, Bool.true_and, Bool.and_true] at h;simp [hf] at h
theorem fields_no10 {e : Ex} (hk : e.kind = 10) (h : plainE e false false false false = false) : fieldsE e = false := by
 cases hf : fieldsE e with
 | false => rfl
 | true =>
  exfalso;unfold fieldsE at hf;simp only [hk, reduceIte, Int.reduceEq, or_false, or_true, false_or, true_or, Bool.and_eq_true] at hf;simp only [plainE, Bool.false_or, Bool.true_or, Bool.true_and, Bool.and_true] at h;simp [hf] at h
theorem fields_no11 {e : Ex} (hk : e.kind = 11) (h : plainE e true false false false = false) : fieldsE e = false := by
 cases hf : fieldsE e with
 | false => rfl
 | true =>
  exfalso;unfold fieldsE at hf;simp only [hk, reduceIte, Int.reduceEq, or_false, or_true, false_or, true_or, Bool.and_eq_true] at hf;simp only [plainE, Bool.false_or, Bool.true_or, Bool.true_and, Bool.and_true] at h;simp [hf] at h
theorem fields_no12 {e : Ex} (hk : e.kind = 12) (h : plainE e true false false false = false) : fieldsE e = false := by
 cases hf : fieldsE e with
 | false => rfl
 | true =>
  exfalso;unfold fieldsE at hf;simp only [hk, reduceIte, Int.reduceEq, or_false, or_true, false_or, true_or, Bool.and_eq_true] at hf;simp only [plainE, Bool.false_or, Bool.true_or, Bool.true_and, Bool.and_true] at h;simp [hf] at h
theorem fields_no13 {e : Ex} (hk : e.kind = 13) (h : plainE e false false false false = false) : fieldsE e = false := by
 cases hf : fieldsE e with
 | false => rfl
 | true =>
  exfalso;unfold fieldsE at hf;simp only [hk, reduceIte, Int.reduceEq, or_false, or_true, false_or, true_or, Bool.and_eq_true] at hf;simp only [plainE, Bool.false_or, Bool.true_or, Bool.true_and, Bool.and_true] at h;simp [hf] at h
theorem fields_no14 {e : Ex} (hk : e.kind = 14) (h : plainE e false false false false = false) : fieldsE e = false := by
 cases hf : fieldsE e with
 | false => rfl
 | true =>
  exfalso;unfold fieldsE at hf;simp only [hk, reduceIte, Int.reduceEq, or_false, or_true, false_or, true_or, Bool.and_eq_true] at hf;simp only [plainE, Bool.false_or, Bool.true_or, Bool.true_and, Bool.and_true] at h;simp [hf] at h
set_option maxHeartbeats 4000000 in
theorem rfields_spec (G : Nat → DVal) (H : DHeap) (e : Ex) (hb : bigE e ≤ 1099511627776) : DCalls Tryz.prog G 113 [.agg (dEx e)] H (DRet (.bool (fieldsE e)) H) := by
 have hal := @big_a e;have hll := @big_l e;have hfl := flat_len dEx_len e.l;have hac : ∀ a ∈ e.a, a.c.length ≤ 1099511627776 := fun a ha => by
  have h1 := big_ae ha;have h2 := bigCs_len a.c;rw [bigA_eq] at h1; omega
 obtain ⟨nz, hnz⟩ : ∃ nz, nz = namedE (e.l.getD 0 ex0) := ⟨_, rfl⟩;have nn : ∀ k, namedN e k = (decide (e.l.length = k) && nz) := fun k => by rw [hnz]; rfl
 obtain ⟨form, hform⟩ : ∃ form, form = (decide (0 < e.l.length) && nz) := ⟨_, rfl⟩;refine dcalls_intro Tryz.func113 Tryz.call113 rfl (by kernel_rfl) ?_;simp (disch := omega) only [go_sem, DVal.cells];intro r1 hr1; dsimp only at hr1;by_cases hp : 0 < e.l.length
 ·have hp' : (0 : Int) < (e.l.length : Int) := by omega
  have hg := flat_el dEx_len e.l 0 hp;have hgd : e.l.getD 0 ex0 = e.l[0] := by rw [List.getD, List.getElem?_eq_getElem hp]; rfl
  rw [Nat.zero_mul, List.drop_zero] at hg;simp (disch := omega) only [go_sem, hp', hg, hfl];refine (rnamed_spec G _ e.l[0]).mono ?_;rintro _ H1 ⟨rfl, rfl⟩;rw [show namedE e.l[0] = form by rw [hform, decide_eq_true hp, Bool.true_and, hnz, hgd]];clear hg hgd;by_cases k1 : e.kind = 1
  ·skip
   simp (disch := omega) only [go_sem, k1];refine (rplain_spec G _ e false true false false).mono ?_;rintro _ H1 ⟨rfl, rfl⟩;cases pl : plainE e false true false false with
   | true =>
    have pl2 := plain_ftff pl;obtain ⟨z1, z3, z4⟩ := pl2;by_cases clen0 : e.l.length = 0
    ·exfalso; omega
    ·have clen0' : ¬ (e.l.length : Int) = 0 := by omega
     simp (disch := omega) only [go_sem, k1, clen0'];exact DFin.dropA r1 hr1 (DFin.refl ⟨by simp [fieldsE, zO, zN, zS, zA, isEmpty_len, nn, plainE, k1, z1, z3, z4, clen0], rfl⟩)
   | false =>
    simp (disch := omega) only [go_sem, k1];exact DFin.dropA r1 hr1 (DFin.refl ⟨by rw [fields_no1 k1 pl], rfl⟩)
  by_cases k2 : e.kind = 2
  ·skip
   simp (disch := omega) only [go_sem, k2];refine (rplain_spec G _ e false false false false).mono ?_;rintro _ H1 ⟨rfl, rfl⟩;cases pl : plainE e false false false false with
   | true =>
    have pl2 := plain_ffff pl;obtain ⟨z1, z2, z3, z4⟩ := pl2;by_cases clen0 : e.l.length = 0
    ·exfalso; omega
    ·have clen0' : ¬ (e.l.length : Int) = 0 := by omega
     simp (disch := omega) only [go_sem, k2, clen0'];exact DFin.dropA r1 hr1 (DFin.refl ⟨by simp [fieldsE, zO, zN, zS, zA, isEmpty_len, nn, plainE, k2, z1, z2, z3, z4, clen0], rfl⟩)
   | false =>
    simp (disch := omega) only [go_sem, k2];exact DFin.dropA r1 hr1 (DFin.refl ⟨by rw [fields_no2 k2 pl], rfl⟩)
  by_cases k3 : e.kind = 3
  ·skip
   simp (disch := omega) only [go_sem, k3];refine (rplain_spec G _ e false false true false).mono ?_;rintro _ H1 ⟨rfl, rfl⟩;cases pl : plainE e false false true false with
   | true =>
    have pl2 := plain_fftf pl;obtain ⟨z1, z2, z4⟩ := pl2;by_cases clen0 : e.l.length = 0
    ·exfalso; omega
    ·have clen0' : ¬ (e.l.length : Int) = 0 := by omega
     simp (disch := omega) only [go_sem, k3, clen0'];exact DFin.dropA r1 hr1 (DFin.refl ⟨by simp [fieldsE, zO, zN, zS, zA, isEmpty_len, nn, plainE, k3, z1, z2, z4, clen0], rfl⟩)
   | false =>
    simp (disch := omega) only [go_sem, k3];exact DFin.dropA r1 hr1 (DFin.refl ⟨by rw [fields_no3 k3 pl], rfl⟩)
  by_cases k4 : e.kind = 4
  ·skip
   simp (disch := omega) only [go_sem, k4];refine (rplain_spec G _ e false false true false).mono ?_;rintro _ H1 ⟨rfl, rfl⟩;cases pl : plainE e false false true false with
   | true =>
    have pl2 := plain_fftf pl;obtain ⟨z1, z2, z4⟩ := pl2;by_cases clen1 : e.l.length = 1
    ·have clen1' : (e.l.length : Int) = 1 := by omega
     cases hn0 : nz with
     | true =>
      have hfm : form = true := by rw [hform, hn0, Bool.and_true]; exact decide_eq_true (by omega)
      simp (disch := omega) only [go_sem, k4, clen1', hfm];refine (rname_spec G _ e.s).mono ?_;rintro _ H1 ⟨rfl, rfl⟩;cases vname : nameB e.s with
      | true =>
       simp (disch := omega) only [go_sem, k4, clen1', hfm];exact DFin.dropA r1 hr1 (DFin.refl ⟨by simp [fieldsE, zO, zN, zS, zA, isEmpty_len, nn, plainE, k4, z1, z2, z4, clen1, hn0, vname], rfl⟩)
      | false =>
       simp (disch := omega) only [go_sem, k4, clen1', hfm];exact DFin.dropA r1 hr1 (DFin.refl ⟨by simp [fieldsE, zO, zN, zS, zA, isEmpty_len, nn, plainE, k4, z1, z2, z4, clen1, hn0, vname], rfl⟩)
     | false =>
      have hfm : form = false := by rw [hform, hn0, Bool.and_false]
      simp (disch := omega) only [go_sem, k4, clen1', hfm];exact DFin.dropA r1 hr1 (DFin.refl ⟨by simp [fieldsE, zO, zN, zS, zA, isEmpty_len, nn, plainE, k4, z1, z2, z4, clen1, hn0], rfl⟩)
    ·have clen1' : ¬ (e.l.length : Int) = 1 := by omega
     simp (disch := omega) only [go_sem, k4, clen1'];exact DFin.dropA r1 hr1 (DFin.refl ⟨by simp [fieldsE, zO, zN, zS, zA, isEmpty_len, nn, plainE, k4, z1, z2, z4, clen1], rfl⟩)
   | false =>
    simp (disch := omega) only [go_sem, k4];exact DFin.dropA r1 hr1 (DFin.refl ⟨by rw [fields_no4 k4 pl], rfl⟩)
  by_cases k6 : e.kind = 6
  ·skip
   simp (disch := omega) only [go_sem, k6];refine (rplain_spec G _ e false false true false).mono ?_;rintro _ H1 ⟨rfl, rfl⟩;cases pl : plainE e false false true false with
   | true =>
    have pl2 := plain_fftf pl;obtain ⟨z1, z2, z4⟩ := pl2;by_cases clen1 : e.l.length = 1
    ·have clen1' : (e.l.length : Int) = 1 := by omega
     cases hn0 : nz with
     | true =>
      have hfm : form = true := by rw [hform, hn0, Bool.and_true]; exact decide_eq_true (by omega)
      simp (disch := omega) only [go_sem, k6, clen1', hfm];refine (rname_spec G _ e.s).mono ?_;rintro _ H1 ⟨rfl, rfl⟩;cases vname : nameB e.s with
      | true =>
       simp (disch := omega) only [go_sem, k6, clen1', hfm];exact DFin.dropA r1 hr1 (DFin.refl ⟨by simp [fieldsE, zO, zN, zS, zA, isEmpty_len, nn, plainE, k6, z1, z2, z4, clen1, hn0, vname], rfl⟩)
      | false =>
       simp (disch := omega) only [go_sem, k6, clen1', hfm];exact DFin.dropA r1 hr1 (DFin.refl ⟨by simp [fieldsE, zO, zN, zS, zA, isEmpty_len, nn, plainE, k6, z1, z2, z4, clen1, hn0, vname], rfl⟩)
     | false =>
      have hfm : form = false := by rw [hform, hn0, Bool.and_false]
      simp (disch := omega) only [go_sem, k6, clen1', hfm];exact DFin.dropA r1 hr1 (DFin.refl ⟨by simp [fieldsE, zO, zN, zS, zA, isEmpty_len, nn, plainE, k6, z1, z2, z4, clen1, hn0], rfl⟩)
    ·have clen1' : ¬ (e.l.length : Int) = 1 := by omega
     simp (disch := omega) only [go_sem, k6, clen1'];exact DFin.dropA r1 hr1 (DFin.refl ⟨by simp [fieldsE, zO, zN, zS, zA, isEmpty_len, nn, plainE, k6, z1, z2, z4, clen1], rfl⟩)
   | false =>
    simp (disch := omega) only [go_sem, k6];exact DFin.dropA r1 hr1 (DFin.refl ⟨by rw [fields_no6 k6 pl], rfl⟩)
  by_cases k5 : e.kind = 5
  ·skip
   simp (disch := omega) only [go_sem, k5];refine (rplain_spec G _ e false false false false).mono ?_;rintro _ H1 ⟨rfl, rfl⟩;cases pl : plainE e false false false false with
   | true =>
    have pl2 := plain_ffff pl;obtain ⟨z1, z2, z3, z4⟩ := pl2;by_cases clen1 : e.l.length = 1
    ·have clen1' : (e.l.length : Int) = 1 := by omega
     cases hn0 : nz with
     | true =>
      have hfm : form = true := by rw [hform, hn0, Bool.and_true]; exact decide_eq_true (by omega)
      simp (disch := omega) only [go_sem, k5, clen1', hfm];exact DFin.dropA r1 hr1 (DFin.refl ⟨by simp [fieldsE, zO, zN, zS, zA, isEmpty_len, nn, plainE, k5, z1, z2, z3, z4, clen1, hn0], rfl⟩)
     | false =>
      have hfm : form = false := by rw [hform, hn0, Bool.and_false]
      simp (disch := omega) only [go_sem, k5, clen1', hfm];exact DFin.dropA r1 hr1 (DFin.refl ⟨by simp [fieldsE, zO, zN, zS, zA, isEmpty_len, nn, plainE, k5, z1, z2, z3, z4, clen1, hn0], rfl⟩)
    ·have clen1' : ¬ (e.l.length : Int) = 1 := by omega
     simp (disch := omega) only [go_sem, k5, clen1'];exact DFin.dropA r1 hr1 (DFin.refl ⟨by simp [fieldsE, zO, zN, zS, zA, isEmpty_len, nn, plainE, k5, z1, z2, z3, z4, clen1], rfl⟩)
   | false =>
    simp (disch := omega) only [go_sem, k5];exact DFin.dropA r1 hr1 (DFin.refl ⟨by rw [fields_no5 k5 pl], rfl⟩)
  by_cases k7 : e.kind = 7
  ·skip
   simp (disch := omega) only [go_sem, k7];refine (rplain_spec G _ e false false false true).mono ?_;rintro _ H1 ⟨rfl, rfl⟩;cases pl : plainE e false false false true with
   | true =>
    have pl2 := plain_ffft pl;obtain ⟨z1, z2, z3⟩ := pl2;by_cases clen1 : e.l.length = 1
    ·have clen1' : (e.l.length : Int) = 1 := by omega
     cases hn0 : nz with
     | true =>
      have hfm : form = true := by rw [hform, hn0, Bool.and_true]; exact decide_eq_true (by omega)
      simp (disch := omega) only [go_sem, k7, clen1', hfm];refine (rarguments_spec G _ e.a (by omega)).mono ?_;rintro _ H1 ⟨rfl, rfl⟩;cases vargs : argsOk e.a with
      | true =>
       simp (disch := omega) only [go_sem, k7, clen1', hfm];exact DFin.dropA r1 hr1 (DFin.refl ⟨by simp [fieldsE, zO, zN, zS, zA, isEmpty_len, nn, plainE, k7, z1, z2, z3, clen1, hn0, vargs], rfl⟩)
      | false =>
       simp (disch := omega) only [go_sem, k7, clen1', hfm];exact DFin.dropA r1 hr1 (DFin.refl ⟨by simp [fieldsE, zO, zN, zS, zA, isEmpty_len, nn, plainE, k7, z1, z2, z3, clen1, hn0, vargs], rfl⟩)
     | false =>
      have hfm : form = false := by rw [hform, hn0, Bool.and_false]
      simp (disch := omega) only [go_sem, k7, clen1', hfm];exact DFin.dropA r1 hr1 (DFin.refl ⟨by simp [fieldsE, zO, zN, zS, zA, isEmpty_len, nn, plainE, k7, z1, z2, z3, clen1, hn0], rfl⟩)
    ·have clen1' : ¬ (e.l.length : Int) = 1 := by omega
     simp (disch := omega) only [go_sem, k7, clen1'];exact DFin.dropA r1 hr1 (DFin.refl ⟨by simp [fieldsE, zO, zN, zS, zA, isEmpty_len, nn, plainE, k7, z1, z2, z3, clen1], rfl⟩)
   | false =>
    simp (disch := omega) only [go_sem, k7];exact DFin.dropA r1 hr1 (DFin.refl ⟨by rw [fields_no7 k7 pl], rfl⟩)
  by_cases k8 : e.kind = 8
  ·skip
   simp (disch := omega) only [go_sem, k8];refine (rplain_spec G _ e false false false false).mono ?_;rintro _ H1 ⟨rfl, rfl⟩;cases pl : plainE e false false false false with
   | true =>
    have pl2 := plain_ffff pl;obtain ⟨z1, z2, z3, z4⟩ := pl2;by_cases clen2 : e.l.length = 2
    ·have clen2' : (e.l.length : Int) = 2 := by omega
     cases hn0 : nz with
     | true =>
      have hfm : form = true := by rw [hform, hn0, Bool.and_true]; exact decide_eq_true (by omega)
      simp (disch := omega) only [go_sem, k8, clen2', hfm];exact DFin.dropA r1 hr1 (DFin.refl ⟨by simp [fieldsE, zO, zN, zS, zA, isEmpty_len, nn, plainE, k8, z1, z2, z3, z4, clen2, hn0], rfl⟩)
     | false =>
      have hfm : form = false := by rw [hform, hn0, Bool.and_false]
      simp (disch := omega) only [go_sem, k8, clen2', hfm];exact DFin.dropA r1 hr1 (DFin.refl ⟨by simp [fieldsE, zO, zN, zS, zA, isEmpty_len, nn, plainE, k8, z1, z2, z3, z4, clen2, hn0], rfl⟩)
    ·have clen2' : ¬ (e.l.length : Int) = 2 := by omega
     simp (disch := omega) only [go_sem, k8, clen2'];exact DFin.dropA r1 hr1 (DFin.refl ⟨by simp [fieldsE, zO, zN, zS, zA, isEmpty_len, nn, plainE, k8, z1, z2, z3, z4, clen2], rfl⟩)
   | false =>
    simp (disch := omega) only [go_sem, k8];exact DFin.dropA r1 hr1 (DFin.refl ⟨by rw [fields_no8 k8 pl], rfl⟩)
  by_cases k9 : e.kind = 9
  ·skip
   simp (disch := omega) only [go_sem, k9];refine (rplain_spec G _ e false false false true).mono ?_;rintro _ H1 ⟨rfl, rfl⟩;cases pl : plainE e false false false true with
   | true =>
    have pl2 := plain_ffft pl;obtain ⟨z1, z2, z3⟩ := pl2;by_cases clen0 : e.l.length = 0
    ·exfalso; omega
    ·have clen0' : ¬ (e.l.length : Int) = 0 := by omega
     simp (disch := omega) only [go_sem, k9, clen0'];exact DFin.dropA r1 hr1 (DFin.refl ⟨by simp [fieldsE, zO, zN, zS, zA, isEmpty_len, nn, plainE, k9, z1, z2, z3, clen0], rfl⟩)
   | false =>
    simp (disch := omega) only [go_sem, k9];exact DFin.dropA r1 hr1 (DFin.refl ⟨by rw [fields_no9 k9 pl], rfl⟩)
  by_cases k10 : e.kind = 10
  ·skip
   simp (disch := omega) only [go_sem, k10];refine (rplain_spec G _ e false false false false).mono ?_;rintro _ H1 ⟨rfl, rfl⟩;cases pl : plainE e false false false false with
   | true =>
    have pl2 := plain_ffff pl;obtain ⟨z1, z2, z3, z4⟩ := pl2;by_cases clen3 : e.l.length = 3
    ·have clen3' : (e.l.length : Int) = 3 := by omega
     simp (disch := omega) only [go_sem, k10, clen3'];exact DFin.dropA r1 hr1 (DFin.refl ⟨by simp [fieldsE, zO, zN, zS, zA, isEmpty_len, nn, plainE, k10, z1, z2, z3, z4, clen3], rfl⟩)
    ·have clen3' : ¬ (e.l.length : Int) = 3 := by omega
     simp (disch := omega) only [go_sem, k10, clen3'];exact DFin.dropA r1 hr1 (DFin.refl ⟨by simp [fieldsE, zO, zN, zS, zA, isEmpty_len, nn, plainE, k10, z1, z2, z3, z4, clen3], rfl⟩)
   | false =>
    simp (disch := omega) only [go_sem, k10];exact DFin.dropA r1 hr1 (DFin.refl ⟨by rw [fields_no10 k10 pl], rfl⟩)
  by_cases k11 : e.kind = 11
  ·skip
   simp (disch := omega) only [go_sem, k11];refine (rplain_spec G _ e true false false false).mono ?_;rintro _ H1 ⟨rfl, rfl⟩;cases pl : plainE e true false false false with
   | true =>
    have pl2 := plain_tfff pl;obtain ⟨z2, z3, z4⟩ := pl2;by_cases clen1 : e.l.length = 1
    ·have clen1' : (e.l.length : Int) = 1 := by omega
     simp (disch := omega) only [go_sem, k11, clen1'];refine (rmonadic_spec G _ e.oper).mono ?_;rintro _ H1 ⟨rfl, rfl⟩;by_cases ca : 18 ≤ e.oper
     ·by_cases cb : e.oper ≤ 21
      ·skip
       simp (disch := omega) only [go_sem, k11, clen1', ca, cb];exact DFin.dropA r1 hr1 (DFin.refl ⟨by simp [fieldsE, zO, zN, zS, zA, isEmpty_len, nn, plainE, k11, z2, z3, z4, clen1, ca, cb], rfl⟩)
      ·skip
       simp (disch := omega) only [go_sem, k11, clen1', ca, cb];exact DFin.dropA r1 hr1 (DFin.refl ⟨by simp [fieldsE, zO, zN, zS, zA, isEmpty_len, nn, plainE, k11, z2, z3, z4, clen1, ca, cb], rfl⟩)
     ·skip
      simp (disch := omega) only [go_sem, k11, clen1', ca];exact DFin.dropA r1 hr1 (DFin.refl ⟨by simp [fieldsE, zO, zN, zS, zA, isEmpty_len, nn, plainE, k11, z2, z3, z4, clen1, ca], rfl⟩)
    ·have clen1' : ¬ (e.l.length : Int) = 1 := by omega
     simp (disch := omega) only [go_sem, k11, clen1'];exact DFin.dropA r1 hr1 (DFin.refl ⟨by simp [fieldsE, zO, zN, zS, zA, isEmpty_len, nn, plainE, k11, z2, z3, z4, clen1], rfl⟩)
   | false =>
    simp (disch := omega) only [go_sem, k11];exact DFin.dropA r1 hr1 (DFin.refl ⟨by rw [fields_no11 k11 pl], rfl⟩)
  by_cases k12 : e.kind = 12
  ·skip
   simp (disch := omega) only [go_sem, k12];refine (rplain_spec G _ e true false false false).mono ?_;rintro _ H1 ⟨rfl, rfl⟩;cases pl : plainE e true false false false with
   | true =>
    have pl2 := plain_tfff pl;obtain ⟨z2, z3, z4⟩ := pl2;by_cases clen2 : e.l.length = 2
    ·have clen2' : (e.l.length : Int) = 2 := by omega
     simp (disch := omega) only [go_sem, k12, clen2'];refine (rdyadic_spec G _ e.oper).mono ?_;rintro _ H1 ⟨rfl, rfl⟩;by_cases ca : 1 ≤ e.oper
     ·by_cases cb : e.oper ≤ 17
      ·skip
       simp (disch := omega) only [go_sem, k12, clen2', ca, cb];exact DFin.dropA r1 hr1 (DFin.refl ⟨by simp [fieldsE, zO, zN, zS, zA, isEmpty_len, nn, plainE, k12, z2, z3, z4, clen2, ca, cb], rfl⟩)
      ·skip
       simp (disch := omega) only [go_sem, k12, clen2', ca, cb];exact DFin.dropA r1 hr1 (DFin.refl ⟨by simp [fieldsE, zO, zN, zS, zA, isEmpty_len, nn, plainE, k12, z2, z3, z4, clen2, ca, cb], rfl⟩)
     ·skip
      simp (disch := omega) only [go_sem, k12, clen2', ca];exact DFin.dropA r1 hr1 (DFin.refl ⟨by simp [fieldsE, zO, zN, zS, zA, isEmpty_len, nn, plainE, k12, z2, z3, z4, clen2, ca], rfl⟩)
    ·have clen2' : ¬ (e.l.length : Int) = 2 := by omega
     simp (disch := omega) only [go_sem, k12, clen2'];exact DFin.dropA r1 hr1 (DFin.refl ⟨by simp [fieldsE, zO, zN, zS, zA, isEmpty_len, nn, plainE, k12, z2, z3, z4, clen2], rfl⟩)
   | false =>
    simp (disch := omega) only [go_sem, k12];exact DFin.dropA r1 hr1 (DFin.refl ⟨by rw [fields_no12 k12 pl], rfl⟩)
  by_cases k13 : e.kind = 13
  ·skip
   simp (disch := omega) only [go_sem, k13];refine (rplain_spec G _ e false false false false).mono ?_;rintro _ H1 ⟨rfl, rfl⟩;cases pl : plainE e false false false false with
   | true =>
    have pl2 := plain_ffff pl;obtain ⟨z1, z2, z3, z4⟩ := pl2;by_cases c2 : e.l.length = 2
    ·have c2' : (e.l.length : Int) = 2 := by omega
     have c3' : ¬ (e.l.length : Int) = 3 := by omega
     have c3 : ¬ e.l.length = 3 := by omega
     have hp1 : 1 < e.l.length := by omega
     have hg1 := flat_el dEx_len e.l 1 hp1;have hgd1 : e.l.getD 1 ex0 = e.l[1] := by rw [List.getD, List.getElem?_eq_getElem hp1]; rfl
     rw [Nat.one_mul] at hg1;simp (disch := omega) only [go_sem, k13, c2', hg1, hfl];refine (rnamed_spec G _ e.l[1]).mono ?_;rintro _ H1 ⟨rfl, rfl⟩;cases ct : namedE e.l[1] with
     | true =>
      simp (disch := omega) only [go_sem, k13, c2'];exact DFin.dropA r1 hr1 (DFin.refl ⟨by simp [fieldsE, zO, zN, zS, zA, isEmpty_len, nn, plainE, k13, z1, z2, z3, z4, c3, c2, hgd1, ct], rfl⟩)
     | false =>
      simp (disch := omega) only [go_sem, k13, c2', c3'];exact DFin.dropA r1 hr1 (DFin.refl ⟨by simp [fieldsE, zO, zN, zS, zA, isEmpty_len, nn, plainE, k13, z1, z2, z3, z4, c3, c2, hgd1, ct], rfl⟩)
    ·have c2' : ¬ (e.l.length : Int) = 2 := by omega
     by_cases c3 : e.l.length = 3
     ·have c3' : (e.l.length : Int) = 3 := by omega
      simp (disch := omega) only [go_sem, k13, c2', c3'];exact DFin.dropA r1 hr1 (DFin.refl ⟨by simp [fieldsE, zO, zN, zS, zA, isEmpty_len, nn, plainE, k13, z1, z2, z3, z4, c2, c3], rfl⟩)
     ·have c3' : ¬ (e.l.length : Int) = 3 := by omega
      simp (disch := omega) only [go_sem, k13, c2', c3'];exact DFin.dropA r1 hr1 (DFin.refl ⟨by simp [fieldsE, zO, zN, zS, zA, isEmpty_len, nn, plainE, k13, z1, z2, z3, z4, c2, c3], rfl⟩)
   | false =>
    simp (disch := omega) only [go_sem, k13];exact DFin.dropA r1 hr1 (DFin.refl ⟨by rw [fields_no13 k13 pl], rfl⟩)
  by_cases k14 : e.kind = 14
  ·skip
   simp (disch := omega) only [go_sem, k14];refine (rplain_spec G _ e false false false false).mono ?_;rintro _ H1 ⟨rfl, rfl⟩;cases pl : plainE e false false false false with
   | true =>
    have pl2 := plain_ffff pl;obtain ⟨z1, z2, z3, z4⟩ := pl2;by_cases c2 : e.l.length = 2
    ·have c2' : (e.l.length : Int) = 2 := by omega
     have c3' : ¬ (e.l.length : Int) = 3 := by omega
     have c3 : ¬ e.l.length = 3 := by omega
     have hp1 : 1 < e.l.length := by omega
     have hg1 := flat_el dEx_len e.l 1 hp1;have hgd1 : e.l.getD 1 ex0 = e.l[1] := by rw [List.getD, List.getElem?_eq_getElem hp1]; rfl
     rw [Nat.one_mul] at hg1;simp (disch := omega) only [go_sem, k14, c2', hg1, hfl];refine (rnamed_spec G _ e.l[1]).mono ?_;rintro _ H1 ⟨rfl, rfl⟩;cases ct : namedE e.l[1] with
     | true =>
      simp (disch := omega) only [go_sem, k14, c2'];exact DFin.dropA r1 hr1 (DFin.refl ⟨by simp [fieldsE, zO, zN, zS, zA, isEmpty_len, nn, plainE, k14, z1, z2, z3, z4, c3, c2, hgd1, ct], rfl⟩)
     | false =>
      simp (disch := omega) only [go_sem, k14, c2', c3'];exact DFin.dropA r1 hr1 (DFin.refl ⟨by simp [fieldsE, zO, zN, zS, zA, isEmpty_len, nn, plainE, k14, z1, z2, z3, z4, c3, c2, hgd1, ct], rfl⟩)
    ·have c2' : ¬ (e.l.length : Int) = 2 := by omega
     by_cases c3 : e.l.length = 3
     ·have c3' : (e.l.length : Int) = 3 := by omega
      simp (disch := omega) only [go_sem, k14, c2', c3'];exact DFin.dropA r1 hr1 (DFin.refl ⟨by simp [fieldsE, zO, zN, zS, zA, isEmpty_len, nn, plainE, k14, z1, z2, z3, z4, c2, c3], rfl⟩)
     ·have c3' : ¬ (e.l.length : Int) = 3 := by omega
      simp (disch := omega) only [go_sem, k14, c2', c3'];exact DFin.dropA r1 hr1 (DFin.refl ⟨by simp [fieldsE, zO, zN, zS, zA, isEmpty_len, nn, plainE, k14, z1, z2, z3, z4, c2, c3], rfl⟩)
   | false =>
    simp (disch := omega) only [go_sem, k14];exact DFin.dropA r1 hr1 (DFin.refl ⟨by rw [fields_no14 k14 pl], rfl⟩)
  simp (disch := omega) only [go_sem, k1, k2, k3, k4, k6, k5, k7, k8, k9, k10, k11, k12, k13, k14];exact DFin.dropA r1 hr1 (DFin.refl ⟨by simp [fieldsE, k1, k2, k3, k4, k6, k5, k7, k8, k9, k10, k11, k12, k13, k14], rfl⟩)
 ·have hp' : ¬ (0 : Int) < (e.l.length : Int) := by omega
  have hfm0 : form = false := by rw [hform, decide_eq_false hp, Bool.false_and]
  simp (disch := omega) only [go_sem, hp'];by_cases k1 : e.kind = 1
  ·skip
   simp (disch := omega) only [go_sem, k1];refine (rplain_spec G _ e false true false false).mono ?_;rintro _ H1 ⟨rfl, rfl⟩;cases pl : plainE e false true false false with
   | true =>
    have pl2 := plain_ftff pl;obtain ⟨z1, z3, z4⟩ := pl2;by_cases clen0 : e.l.length = 0
    ·have clen0' : (e.l.length : Int) = 0 := by omega
     by_cases ca : 0 ≤ e.n
     ·by_cases cb : e.n ≤ 2147483647
      ·skip
       simp (disch := omega) only [go_sem, k1, clen0', ca, cb];exact DFin.dropA r1 hr1 (DFin.refl ⟨by simp [fieldsE, zO, zN, zS, zA, isEmpty_len, nn, plainE, k1, z1, z3, z4, clen0, ca, cb], rfl⟩)
      ·skip
       simp (disch := omega) only [go_sem, k1, clen0', ca, cb];exact DFin.dropA r1 hr1 (DFin.refl ⟨by simp [fieldsE, zO, zN, zS, zA, isEmpty_len, nn, plainE, k1, z1, z3, z4, clen0, ca, cb], rfl⟩)
     ·skip
      simp (disch := omega) only [go_sem, k1, clen0', ca];exact DFin.dropA r1 hr1 (DFin.refl ⟨by simp [fieldsE, zO, zN, zS, zA, isEmpty_len, nn, plainE, k1, z1, z3, z4, clen0, ca], rfl⟩)
    ·exfalso; omega
   | false =>
    simp (disch := omega) only [go_sem, k1];exact DFin.dropA r1 hr1 (DFin.refl ⟨by rw [fields_no1 k1 pl], rfl⟩)
  by_cases k2 : e.kind = 2
  ·skip
   simp (disch := omega) only [go_sem, k2];refine (rplain_spec G _ e false false false false).mono ?_;rintro _ H1 ⟨rfl, rfl⟩;cases pl : plainE e false false false false with
   | true =>
    have pl2 := plain_ffff pl;obtain ⟨z1, z2, z3, z4⟩ := pl2;by_cases clen0 : e.l.length = 0
    ·have clen0' : (e.l.length : Int) = 0 := by omega
     simp (disch := omega) only [go_sem, k2, clen0'];exact DFin.dropA r1 hr1 (DFin.refl ⟨by simp [fieldsE, zO, zN, zS, zA, isEmpty_len, nn, plainE, k2, z1, z2, z3, z4, clen0], rfl⟩)
    ·exfalso; omega
   | false =>
    simp (disch := omega) only [go_sem, k2];exact DFin.dropA r1 hr1 (DFin.refl ⟨by rw [fields_no2 k2 pl], rfl⟩)
  by_cases k3 : e.kind = 3
  ·skip
   simp (disch := omega) only [go_sem, k3];refine (rplain_spec G _ e false false true false).mono ?_;rintro _ H1 ⟨rfl, rfl⟩;cases pl : plainE e false false true false with
   | true =>
    have pl2 := plain_fftf pl;obtain ⟨z1, z2, z4⟩ := pl2;by_cases clen0 : e.l.length = 0
    ·have clen0' : (e.l.length : Int) = 0 := by omega
     simp (disch := omega) only [go_sem, k3, clen0'];refine (rname_spec G _ e.s).mono ?_;rintro _ H1 ⟨rfl, rfl⟩;cases vname : nameB e.s with
     | true =>
      simp (disch := omega) only [go_sem, k3, clen0'];exact DFin.dropA r1 hr1 (DFin.refl ⟨by simp [fieldsE, zO, zN, zS, zA, isEmpty_len, nn, plainE, k3, z1, z2, z4, clen0, vname], rfl⟩)
     | false =>
      simp (disch := omega) only [go_sem, k3, clen0'];exact DFin.dropA r1 hr1 (DFin.refl ⟨by simp [fieldsE, zO, zN, zS, zA, isEmpty_len, nn, plainE, k3, z1, z2, z4, clen0, vname], rfl⟩)
    ·exfalso; omega
   | false =>
    simp (disch := omega) only [go_sem, k3];exact DFin.dropA r1 hr1 (DFin.refl ⟨by rw [fields_no3 k3 pl], rfl⟩)
  by_cases k4 : e.kind = 4
  ·skip
   simp (disch := omega) only [go_sem, k4];refine (rplain_spec G _ e false false true false).mono ?_;rintro _ H1 ⟨rfl, rfl⟩;cases pl : plainE e false false true false with
   | true =>
    have pl2 := plain_fftf pl;obtain ⟨z1, z2, z4⟩ := pl2;by_cases clen1 : e.l.length = 1
    ·exfalso; omega
    ·have clen1' : ¬ (e.l.length : Int) = 1 := by omega
     simp (disch := omega) only [go_sem, k4, clen1'];exact DFin.dropA r1 hr1 (DFin.refl ⟨by simp [fieldsE, zO, zN, zS, zA, isEmpty_len, nn, plainE, k4, z1, z2, z4, clen1], rfl⟩)
   | false =>
    simp (disch := omega) only [go_sem, k4];exact DFin.dropA r1 hr1 (DFin.refl ⟨by rw [fields_no4 k4 pl], rfl⟩)
  by_cases k6 : e.kind = 6
  ·skip
   simp (disch := omega) only [go_sem, k6];refine (rplain_spec G _ e false false true false).mono ?_;rintro _ H1 ⟨rfl, rfl⟩;cases pl : plainE e false false true false with
   | true =>
    have pl2 := plain_fftf pl;obtain ⟨z1, z2, z4⟩ := pl2;by_cases clen1 : e.l.length = 1
    ·exfalso; omega
    ·have clen1' : ¬ (e.l.length : Int) = 1 := by omega
     simp (disch := omega) only [go_sem, k6, clen1'];exact DFin.dropA r1 hr1 (DFin.refl ⟨by simp [fieldsE, zO, zN, zS, zA, isEmpty_len, nn, plainE, k6, z1, z2, z4, clen1], rfl⟩)
   | false =>
    simp (disch := omega) only [go_sem, k6];exact DFin.dropA r1 hr1 (DFin.refl ⟨by rw [fields_no6 k6 pl], rfl⟩)
  by_cases k5 : e.kind = 5
  ·skip
   simp (disch := omega) only [go_sem, k5];refine (rplain_spec G _ e false false false false).mono ?_;rintro _ H1 ⟨rfl, rfl⟩;cases pl : plainE e false false false false with
   | true =>
    have pl2 := plain_ffff pl;obtain ⟨z1, z2, z3, z4⟩ := pl2;by_cases clen1 : e.l.length = 1
    ·exfalso; omega
    ·have clen1' : ¬ (e.l.length : Int) = 1 := by omega
     simp (disch := omega) only [go_sem, k5, clen1'];exact DFin.dropA r1 hr1 (DFin.refl ⟨by simp [fieldsE, zO, zN, zS, zA, isEmpty_len, nn, plainE, k5, z1, z2, z3, z4, clen1], rfl⟩)
   | false =>
    simp (disch := omega) only [go_sem, k5];exact DFin.dropA r1 hr1 (DFin.refl ⟨by rw [fields_no5 k5 pl], rfl⟩)
  by_cases k7 : e.kind = 7
  ·skip
   simp (disch := omega) only [go_sem, k7];refine (rplain_spec G _ e false false false true).mono ?_;rintro _ H1 ⟨rfl, rfl⟩;cases pl : plainE e false false false true with
   | true =>
    have pl2 := plain_ffft pl;obtain ⟨z1, z2, z3⟩ := pl2;by_cases clen1 : e.l.length = 1
    ·exfalso; omega
    ·have clen1' : ¬ (e.l.length : Int) = 1 := by omega
     simp (disch := omega) only [go_sem, k7, clen1'];exact DFin.dropA r1 hr1 (DFin.refl ⟨by simp [fieldsE, zO, zN, zS, zA, isEmpty_len, nn, plainE, k7, z1, z2, z3, clen1], rfl⟩)
   | false =>
    simp (disch := omega) only [go_sem, k7];exact DFin.dropA r1 hr1 (DFin.refl ⟨by rw [fields_no7 k7 pl], rfl⟩)
  by_cases k8 : e.kind = 8
  ·skip
   simp (disch := omega) only [go_sem, k8];refine (rplain_spec G _ e false false false false).mono ?_;rintro _ H1 ⟨rfl, rfl⟩;cases pl : plainE e false false false false with
   | true =>
    have pl2 := plain_ffff pl;obtain ⟨z1, z2, z3, z4⟩ := pl2;by_cases clen2 : e.l.length = 2
    ·exfalso; omega
    ·have clen2' : ¬ (e.l.length : Int) = 2 := by omega
     simp (disch := omega) only [go_sem, k8, clen2'];exact DFin.dropA r1 hr1 (DFin.refl ⟨by simp [fieldsE, zO, zN, zS, zA, isEmpty_len, nn, plainE, k8, z1, z2, z3, z4, clen2], rfl⟩)
   | false =>
    simp (disch := omega) only [go_sem, k8];exact DFin.dropA r1 hr1 (DFin.refl ⟨by rw [fields_no8 k8 pl], rfl⟩)
  by_cases k9 : e.kind = 9
  ·skip
   simp (disch := omega) only [go_sem, k9];refine (rplain_spec G _ e false false false true).mono ?_;rintro _ H1 ⟨rfl, rfl⟩;cases pl : plainE e false false false true with
   | true =>
    have pl2 := plain_ffft pl;obtain ⟨z1, z2, z3⟩ := pl2;by_cases clen0 : e.l.length = 0
    ·have clen0' : (e.l.length : Int) = 0 := by omega
     simp (disch := omega) only [go_sem, k9, clen0'];refine (rassociations_spec G _ e.a (by omega) hac).mono ?_;rintro _ H1 ⟨rfl, rfl⟩;cases vassocs : assocsOk e.a with
     | true =>
      simp (disch := omega) only [go_sem, k9, clen0'];exact DFin.dropA r1 hr1 (DFin.refl ⟨by simp [fieldsE, zO, zN, zS, zA, isEmpty_len, nn, plainE, k9, z1, z2, z3, clen0, vassocs], rfl⟩)
     | false =>
      simp (disch := omega) only [go_sem, k9, clen0'];exact DFin.dropA r1 hr1 (DFin.refl ⟨by simp [fieldsE, zO, zN, zS, zA, isEmpty_len, nn, plainE, k9, z1, z2, z3, clen0, vassocs], rfl⟩)
    ·exfalso; omega
   | false =>
    simp (disch := omega) only [go_sem, k9];exact DFin.dropA r1 hr1 (DFin.refl ⟨by rw [fields_no9 k9 pl], rfl⟩)
  by_cases k10 : e.kind = 10
  ·skip
   simp (disch := omega) only [go_sem, k10];refine (rplain_spec G _ e false false false false).mono ?_;rintro _ H1 ⟨rfl, rfl⟩;cases pl : plainE e false false false false with
   | true =>
    have pl2 := plain_ffff pl;obtain ⟨z1, z2, z3, z4⟩ := pl2;by_cases clen3 : e.l.length = 3
    ·exfalso; omega
    ·have clen3' : ¬ (e.l.length : Int) = 3 := by omega
     simp (disch := omega) only [go_sem, k10, clen3'];exact DFin.dropA r1 hr1 (DFin.refl ⟨by simp [fieldsE, zO, zN, zS, zA, isEmpty_len, nn, plainE, k10, z1, z2, z3, z4, clen3], rfl⟩)
   | false =>
    simp (disch := omega) only [go_sem, k10];exact DFin.dropA r1 hr1 (DFin.refl ⟨by rw [fields_no10 k10 pl], rfl⟩)
  by_cases k11 : e.kind = 11
  ·skip
   simp (disch := omega) only [go_sem, k11];refine (rplain_spec G _ e true false false false).mono ?_;rintro _ H1 ⟨rfl, rfl⟩;cases pl : plainE e true false false false with
   | true =>
    have pl2 := plain_tfff pl;obtain ⟨z2, z3, z4⟩ := pl2;by_cases clen1 : e.l.length = 1
    ·exfalso; omega
    ·have clen1' : ¬ (e.l.length : Int) = 1 := by omega
     simp (disch := omega) only [go_sem, k11, clen1'];exact DFin.dropA r1 hr1 (DFin.refl ⟨by simp [fieldsE, zO, zN, zS, zA, isEmpty_len, nn, plainE, k11, z2, z3, z4, clen1], rfl⟩)
   | false =>
    simp (disch := omega) only [go_sem, k11];exact DFin.dropA r1 hr1 (DFin.refl ⟨by rw [fields_no11 k11 pl], rfl⟩)
  by_cases k12 : e.kind = 12
  ·skip
   simp (disch := omega) only [go_sem, k12];refine (rplain_spec G _ e true false false false).mono ?_;rintro _ H1 ⟨rfl, rfl⟩;cases pl : plainE e true false false false with
   | true =>
    have pl2 := plain_tfff pl;obtain ⟨z2, z3, z4⟩ := pl2;by_cases clen2 : e.l.length = 2
    ·exfalso; omega
    ·have clen2' : ¬ (e.l.length : Int) = 2 := by omega
     simp (disch := omega) only [go_sem, k12, clen2'];exact DFin.dropA r1 hr1 (DFin.refl ⟨by simp [fieldsE, zO, zN, zS, zA, isEmpty_len, nn, plainE, k12, z2, z3, z4, clen2], rfl⟩)
   | false =>
    simp (disch := omega) only [go_sem, k12];exact DFin.dropA r1 hr1 (DFin.refl ⟨by rw [fields_no12 k12 pl], rfl⟩)
  by_cases k13 : e.kind = 13
  ·skip
   simp (disch := omega) only [go_sem, k13];refine (rplain_spec G _ e false false false false).mono ?_;rintro _ H1 ⟨rfl, rfl⟩;cases pl : plainE e false false false false with
   | true =>
    have pl2 := plain_ffff pl;obtain ⟨z1, z2, z3, z4⟩ := pl2;by_cases c2 : e.l.length = 2
    ·exfalso; omega
    ·have c2' : ¬ (e.l.length : Int) = 2 := by omega
     by_cases c3 : e.l.length = 3
     ·exfalso; omega
     ·have c3' : ¬ (e.l.length : Int) = 3 := by omega
      simp (disch := omega) only [go_sem, k13, c2', c3'];exact DFin.dropA r1 hr1 (DFin.refl ⟨by simp [fieldsE, zO, zN, zS, zA, isEmpty_len, nn, plainE, k13, z1, z2, z3, z4, c2, c3], rfl⟩)
   | false =>
    simp (disch := omega) only [go_sem, k13];exact DFin.dropA r1 hr1 (DFin.refl ⟨by rw [fields_no13 k13 pl], rfl⟩)
  by_cases k14 : e.kind = 14
  ·skip
   simp (disch := omega) only [go_sem, k14];refine (rplain_spec G _ e false false false false).mono ?_;rintro _ H1 ⟨rfl, rfl⟩;cases pl : plainE e false false false false with
   | true =>
    have pl2 := plain_ffff pl;obtain ⟨z1, z2, z3, z4⟩ := pl2;by_cases c2 : e.l.length = 2
    ·exfalso; omega
    ·have c2' : ¬ (e.l.length : Int) = 2 := by omega
     by_cases c3 : e.l.length = 3
     ·exfalso; omega
     ·have c3' : ¬ (e.l.length : Int) = 3 := by omega
      simp (disch := omega) only [go_sem, k14, c2', c3'];exact DFin.dropA r1 hr1 (DFin.refl ⟨by simp [fieldsE, zO, zN, zS, zA, isEmpty_len, nn, plainE, k14, z1, z2, z3, z4, c2, c3], rfl⟩)
   | false =>
    simp (disch := omega) only [go_sem, k14];exact DFin.dropA r1 hr1 (DFin.refl ⟨by rw [fields_no14 k14 pl], rfl⟩)
  simp (disch := omega) only [go_sem, k1, k2, k3, k4, k6, k5, k7, k8, k9, k10, k11, k12, k13, k14];exact DFin.dropA r1 hr1 (DFin.refl ⟨by simp [fieldsE, k1, k2, k3, k4, k6, k5, k7, k8, k9, k10, k11, k12, k13, k14], rfl⟩)
end
end Go.Dl

-- Chapter 3: the reference: Parts, room, May, Size, Lines.
namespace Go.Dl
open Go Go.Proofs
set_option maxRecDepth 100000
theorem bigL_append (l m : List Ex) : bigL (l ++ m) = bigL l + bigL m := by
 induction l with
 | nil => simp [bigL]
 | cons x l ih => rw [List.cons_append, bigL, bigL, ih]; omega
theorem bigL_partsA (a : As) : bigL (partsA a) ≤ bigA a := by
 rw [partsA, bigL_append, bigA_eq];have h : ∀ l : List Ch, bigL (l.flatMap Ch.l) ≤ bigCs l := by
  intro l
  induction l with
  | nil => simp [bigL]
  | cons c l ih => rw [List.flatMap_cons, bigL_append, bigCs, bigC_eq]; omega
 have := h a.c;simp only [bigL]; omega
theorem bigL_parts (e : Ex) : bigL (parts e) ≤ bigE e := by
 rw [parts, bigL_append, bigE_eq];have h : ∀ l : List As, bigL (l.flatMap partsA) ≤ bigAs l := by
  intro l
  induction l with
  | nil => simp [bigL]
  | cons c l ih => have := bigL_partsA c; rw [List.flatMap_cons, bigL_append, bigAs]; omega
 have := h e.a;omega
theorem parts_len (e : Ex) : (parts e).length ≤ bigE e := by
 have := bigL_len (parts e);have := bigL_parts e;omega
section
variable {G : Nat → DVal} {H : DHeap}
def OwnX (H : DHeap) (l : List Ex) (v : DVal) (H' : DHeap) : Prop := OwnJ H 27 9 l.length (l.flatMap dEx) v H'
set_option maxHeartbeats 4000000 in
theorem parts_spec (G : Nat → DVal) (H : DHeap) (e : Ex) (hb : bigE e ≤ 100000000000) : DCalls Tryz.prog G 73 [.agg (dEx e)] H (DRet (dXs (parts e)) H) := by
 have hal := @big_a e;have hll := @big_l e;have hfl := flat_len dEx_len e.l;have hfa := flat_len dAs_len e.a;have hpl := parts_len e;refine dcalls_intro Tryz.func73 Tryz.call73 rfl (by kernel_rfl) ?_;simp (disch := omega) only [go_sem, DVal.cells];intro r1 hr1; dsimp only at hr1;simp (disch := omega) only [go_sem];intro r6 hr6; dsimp only at hr6;obtain ⟨m1, m2, hr6'⟩ := upd_eq_none.1 hr6;have ht : (e.l.flatMap dEx).take (e.l.length * 9) = e.l.flatMap dEx := List.take_of_length_le (by omega);have ho : ((e.l.flatMap dEx).all (fun d => d.one)) = true := by
  rw [List.all_eq_true];intro d hd;obtain ⟨x, _, hd⟩ := List.mem_flatMap.1 hd;exact List.all_eq_true.1 (dEx_one x) d hd
 simp (disch := omega) only [go_sem, m1, m2, hfl, ht, ho];have hv0 : OwnJ (upd H r1 (some (.cells (dEx e) 27))) 27 9 0 [] (.oslice 9 r6 0 0 0) (upd (upd H r1 (some (.cells (dEx e) 27))) r6 (some (.cells [] 27))) := .inr ⟨r6, hr6, rfl, rfl, upd_same _ _ _, (Sub.refl _).new hr6 _⟩;refine OwnJ.appendO hv0 hfl (by omega) fun v1 H1 hv1 => ?_;change OwnJ _ _ _ (0 + e.l.length) ([] ++ e.l.flatMap dEx) v1 H1 at hv1;rw [List.nil_append, Nat.zero_add] at hv1;obtain ⟨H0, hH0⟩ : ∃ H0, H0 = upd H r1 (some (.cells (dEx e) 27)) := ⟨_, rfl⟩;have h01 : H0 r1 = some (.cells (dEx e) 27) := by rw [hH0]; exact upd_same _ _ _
 have hs0 : Sub H H0 := by rw [hH0]; exact (Sub.refl H).new hr1 _
 rw [← hH0] at hv1;have htk : ∀ j (hj : j < e.a.length), (e.a.take (j + 1)).flatMap partsA = (e.a.take j).flatMap partsA ++ partsA e.a[j] := fun j hj => by
  rw [List.take_add_one, List.getElem?_eq_getElem hj, List.flatMap_append]; simp
 have hple : ∀ (l : List Ex) (t : List Ex), l ++ t = parts e → l.length ≤ 100000000000 := fun l t h => by
  have := congrArg List.length h;rw [List.length_append] at this; omega
 simp (disch := omega) only [go_sem];obtain ⟨I, hI⟩ : ∃ I : Nat → (Nat → DVal) → DHeap → Prop, ∀ j env heap, I j env heap ↔ (env 1 = .optr r1 0 ∧ env 4 = dI j ∧ j ≤ e.a.length ∧ OwnX H0 (e.l ++ (e.a.take j).flatMap partsA) (env 3) heap) := ⟨_, fun _ _ _ => Iff.rfl⟩;refine DLoop.run I (fun j => e.a.length - j) 0 ((hI _ _ _).2 ?_) ?_
 ·simp (disch := omega) only [go_sem];(repeat' apply And.intro) <;> (try first | rfl | assumption | omega);unfold OwnX;rw [List.flatMap_nil, List.append_nil];exact hv1
 ·intro j env heap hi;obtain ⟨e1, e4, hj, hv⟩ := (hI _ _ _).1 hi;obtain ⟨v, e3⟩ : ∃ v, env 3 = v := ⟨_, rfl⟩;rw [e3] at hv;have g1 : heap r1 = some (.cells (dEx e) 27) := OwnJ.keep hv h01;by_cases hjl : j < e.a.length
  ·have hjl' : (j : Int) < (e.a.length : Int) := by omega
   have hget := flat_el dAs_len e.a j hjl;have gc := flat_get dAs_len e.a j hjl 0 (by decide);rw [dAs_0, Nat.add_zero] at gc;have hwj : IntKind.i64.wrap ((j : Int) + 1) = ((j + 1 : Nat) : Int) := by rw [IntKind.wrap_i64]; omega
   have hba := big_ae (List.getElem_mem hjl);have htj := htk j hjl;have hpre : e.l ++ (e.a.take (j + 1)).flatMap partsA ++ (e.a.drop (j + 1)).flatMap partsA = parts e := by
    rw [List.append_assoc, ← List.flatMap_append, List.take_append_drop]; rfl
   have gE : ((e.a.flatMap dAs).drop (j * 10 + 1)).take 9 = dEx e.a[j].e := by
    rw [← dAs_1, ← hget, List.drop_take, List.take_take, List.drop_drop]; rfl
   obtain ⟨a, ha⟩ : ∃ a, a = e.a[j] := ⟨_, rfl⟩;rw [← ha] at gc hba htj gE;have hbc := bigCs_len a.c;have hfc := flat_len dCh_len a.c;rw [bigA_eq] at hba;obtain ⟨L, hL⟩ : ∃ L, L = e.l ++ (e.a.take j).flatMap partsA := ⟨_, rfl⟩;rw [← hL] at hv;rw [htj, ← List.append_assoc, ← hL] at hpre;simp (disch := omega) only [go_sem, e1, e3, e4, g1, hjl'];obtain ⟨J, hJ⟩ : ∃ J : Nat → (Nat → DVal) → DHeap → Prop, ∀ m env heap, J m env heap ↔ (env 1 = .optr r1 0 ∧ env 4 = dI j ∧ env 5 = dI m ∧ m ≤ a.c.length ∧ OwnX H0 (L ++ (a.c.take m).flatMap Ch.l) (env 3) heap) := ⟨_, fun _ _ _ => Iff.rfl⟩;refine DLoop.run J (fun m => a.c.length - m) 0 ((hJ _ _ _).2 ?_) ?_
   ·simp (disch := omega) only [go_sem, e1, e3, e4];(repeat' apply And.intro) <;> (try first | rfl | assumption | omega);rw [List.flatMap_nil, List.append_nil]; exact hv
   ·intro m env heap hi;obtain ⟨e1, e4, e5, hm, hv⟩ := (hJ _ _ _).1 hi;obtain ⟨v, e3⟩ : ∃ v, env 3 = v := ⟨_, rfl⟩;rw [e3] at hv;have g1 : heap r1 = some (.cells (dEx e) 27) := OwnJ.keep hv h01;by_cases hml : m < a.c.length
    ·have hml' : (m : Int) < (a.c.length : Int) := by omega
     have hwm : IntKind.i64.wrap ((m : Int) + 1) = ((m + 1 : Nat) : Int) := by rw [IntKind.wrap_i64]; omega
     have gl := flat_get dCh_len a.c m hml 1 (by decide);rw [dCh_1] at gl;have hbm := bigCs_mem (List.getElem_mem hml);obtain ⟨c, hc⟩ : ∃ c, c = a.c[m] := ⟨_, rfl⟩;rw [← hc] at gl hbm;have hbl := bigL_len c.l;have hfx := flat_len dEx_len c.l;rw [bigC_eq] at hbm;have htm : (a.c.take (m + 1)).flatMap Ch.l = (a.c.take m).flatMap Ch.l ++ c.l := by
      rw [List.take_add_one, List.getElem?_eq_getElem hml, List.flatMap_append, hc]; simp
     have htx : (c.l.flatMap dEx).take (c.l.length * 9) = c.l.flatMap dEx := List.take_of_length_le (by omega);have hox : ((c.l.flatMap dEx).all (fun d => d.one)) = true := by
      rw [List.all_eq_true];intro d hd;obtain ⟨x, _, hd⟩ := List.mem_flatMap.1 hd;exact List.all_eq_true.1 (dEx_one x) d hd
     have hll2 : (L ++ (a.c.take m).flatMap Ch.l).length ≤ 100000000000 := by
      refine hple _ ((a.c.drop m).flatMap Ch.l ++ ([a.e] ++ (e.a.drop (j + 1)).flatMap partsA)) ?_;rw [← hpre, partsA];simp only [List.append_assoc];rw [← List.append_assoc ((a.c.take m).flatMap Ch.l), ← List.flatMap_append, List.take_append_drop]
     simp (disch := omega) only [go_sem, e1, e3, e4, e5, g1, hjl', hfa, gc, hml', hfc, gl, hfx, htx, hox, Int.toNat_natCast];refine OwnJ.append (m := c.l.length) hv hfx (by omega) fun v2 H2 hv2 => ?_;simp (disch := omega) only [go_sem, e1, e3, e4, e5];refine ⟨m + 1, _, GhostS.refl _, (hJ _ _ _).2 ?_, by omega⟩;simp (disch := omega) only [go_sem, e1, e3, e4, e5, hwm];(repeat' apply And.intro) <;> (try first | rfl | assumption | omega);unfold OwnX;rw [htm, ← List.append_assoc, List.length_append, List.flatMap_append];exact hv2
    ·have : m = a.c.length := by omega
     subst this;rw [List.take_length] at hv;have hll2 : (L ++ a.c.flatMap Ch.l).length ≤ 100000000000 := by
      refine hple _ ([a.e] ++ (e.a.drop (j + 1)).flatMap partsA) ?_;rw [← hpre, partsA];simp only [List.append_assoc]
     have hlt' : ¬ (a.c.length : Int) < (a.c.length : Int) := by omega
     have hrep : repl 1 [DVal.int .u8 0, DVal.int .u8 0, DVal.int .i64 0, DVal.str [], DVal.nilSlice, DVal.nilSlice, DVal.int .i64 0, DVal.int .i64 0, DVal.int .i64 0] = [DVal.int .u8 0, DVal.int .u8 0, DVal.int .i64 0, DVal.str [], DVal.nilSlice, DVal.nilSlice, DVal.int .i64 0, DVal.int .i64 0, DVal.int .i64 0] := rfl;simp (disch := omega) only [go_sem, e1, e3, e4, e5, g1, hjl', hfa, gc, gE, Int.toNat_natCast, hrep, List.length_cons, List.length_nil, List.drop_succ_cons, List.drop_zero];intro ns hns; dsimp only at hns;simp (disch := omega) only [go_sem, e1, e3, e4, e5];refine OwnJ.append (m := 1) (OwnJ.new hv hns _) (by rw [dEx_len]) (by omega) fun v2 H2 hv2 => ?_;simp (disch := omega) only [go_sem, e1, e3, e4, e5];refine ⟨j + 1, _, GhostS.refl _, (hI _ _ _).2 ?_, by omega⟩;simp (disch := omega) only [go_sem, e1, e3, e4, hwj];(repeat' apply And.intro) <;> (try first | rfl | assumption | omega);unfold OwnX;rw [htj, ← List.append_assoc, ← hL, partsA, ← List.append_assoc, List.length_append (bs := [a.e]), List.length_singleton, List.flatMap_append (ys := [a.e]), List.flatMap_singleton];exact hv2
  ·have : j = e.a.length := by omega
   subst this;rw [List.take_length] at hv;have hlt' : ¬ (e.a.length : Int) < (e.a.length : Int) := by omega
   simp (disch := omega) only [go_sem, e1, e3, e4, g1, hlt'];exact OwnJ.fin (hv.less hs0) ⟨rfl, rfl⟩
def roomE (e : Ex) (d : Nat) (n : Int) : Int := if validE d e = true ∧ (sizeE e : Int) ≤ n then n - sizeE e else -1
def roomL (l : List Ex) (d : Nat) (n : Int) : Int := if l.all (validE d) = true ∧ (sumE l : Int) ≤ n then n - sumE l else -1
theorem roomL_step {l : List Ex} {d k : Nat} {n : Int} (hk : k < l.length) (h0 : 0 ≤ n) : (if 0 ≤ roomE l[k] d n then roomL (l.drop (k + 1)) d (roomE l[k] d n) else -1) = roomL (l.drop k) d n := by
 rw [List.drop_eq_getElem_cons hk];have hs : sumE (l[k] :: l.drop (k + 1)) = sizeE l[k] + sumE (l.drop (k + 1)) := by rw [sumE, List.map_cons, List.sum_cons]; rfl
 unfold roomE roomL;rw [List.all_cons, hs];by_cases h1 : validE d l[k] = true ∧ (sizeE l[k] : Int) ≤ n
 ·rw [if_pos h1, if_pos (by omega)];by_cases h2 : (l.drop (k + 1)).all (validE d) = true ∧ (sumE (l.drop (k + 1)) : Int) ≤ n - sizeE l[k]
  ·rw [if_pos h2, if_pos ⟨by rw [h1.1, h2.1]; rfl, by omega⟩]; omega
  ·rw [if_neg h2, if_neg];rintro ⟨h3, h4⟩;rw [Bool.and_eq_true] at h3;exact h2 ⟨h3.2, by omega⟩
 ·rw [if_neg h1, if_neg (by omega), if_neg];rintro ⟨h3, h4⟩;rw [Bool.and_eq_true] at h3;exact h1 ⟨h3.1, by omega⟩
theorem room_spec (G : Nat → DVal) : ∀ (e : Ex) (H : DHeap) (d : Nat) (n : Int), bigE e ≤ 100000000000 → d ≤ 1000000 → 0 ≤ n → n ≤ 256 → DCalls Tryz.prog G 54 [.agg (dEx e), .int .i64 d, .int .i64 n] H (DRet (dI (roomE e d n)) H) := by
 intro e
 induction e using Ex.ind with
 | h e ih =>
  intro H d n hb hd h0 h1;have hpl := parts_len e;have hsz := sizeE_sum e;have hve := validE_eq d e;refine dcalls_intro Tryz.func54 Tryz.call54 rfl (by kernel_rfl) ?_;simp (disch := omega) only [go_sem, DVal.cells];intro r3 hr3; dsimp only at hr3;by_cases c1 : 32 < d
  ·have c1' : (32 : Int) < (d : Int) := by omega
   simp (disch := omega) only [go_sem, c1'];refine DFin.dropA r3 hr3 (DFin.refl ⟨?_, rfl⟩);rw [roomE, if_neg];rintro ⟨hv, _⟩;rw [hve, decide_eq_false (by omega), Bool.false_and, Bool.false_and] at hv;cases hv
  have c1' : ¬ (32 : Int) < (d : Int) := by omega
  simp (disch := omega) only [go_sem, c1'];refine (rfields_spec G _ e (by omega)).mono ?_;rintro _ H1 ⟨rfl, rfl⟩;cases hf : fieldsE e with
  | false =>
   simp (disch := omega) only [go_sem];refine DFin.dropA r3 hr3 (DFin.refl ⟨?_, rfl⟩);rw [roomE, if_neg];rintro ⟨hv, _⟩;rw [hve, hf, Bool.and_false, Bool.false_and] at hv;cases hv
  | true =>
   have hwn : IntKind.i64.wrap (n - 1) = n - 1 := by rw [IntKind.wrap_i64]; omega
   have hwd : IntKind.i64.wrap ((d : Int) + 1) = ((d + 1 : Nat) : Int) := by rw [IntKind.wrap_i64]; omega
   rw [hf, decide_eq_true (show d ≤ 32 by omega), Bool.true_and, Bool.true_and] at hve;have hroom : roomE e d n = if 0 ≤ n - 1 then roomL (parts e) (d + 1) (n - 1) else -1 := by
    unfold roomE roomL;rw [hve, hsz];by_cases h2 : 0 ≤ n - 1
    ·rw [if_pos h2];by_cases h3 : (parts e).all (validE (d + 1)) = true ∧ (sumE (parts e) : Int) ≤ n - 1
     ·rw [if_pos h3, if_pos ⟨h3.1, by omega⟩]; omega
     ·rw [if_neg h3, if_neg (fun h4 => h3 ⟨h4.1, by omega⟩)]
    ·rw [if_neg h2, if_neg (fun h4 => by omega)]
   simp (disch := omega) only [go_sem, hwn];refine (parts_spec G _ e hb).mono ?_;rintro _ H1 ⟨rfl, rfl⟩;have hfp := flat_len dEx_len (parts e);simp (disch := omega) only [go_sem, dXs];obtain ⟨I, hI⟩ : ∃ I : Nat × Int → (Nat → DVal) → DHeap → Prop, ∀ kn env heap, I kn env heap ↔ (env 1 = .int .i64 d ∧ env 2 = .int .i64 kn.2 ∧ env 7 = .vslice ((parts e).flatMap dEx) (parts e).length ∧ env 8 = dI kn.1 ∧ kn.1 ≤ (parts e).length ∧ -1 ≤ kn.2 ∧ kn.2 ≤ 256 ∧ roomE e d n = (if 0 ≤ kn.2 then roomL ((parts e).drop kn.1) (d + 1) kn.2 else -1) ∧ heap = upd H r3 (some (.cells (dEx e) 27))) := ⟨_, fun _ _ _ => Iff.rfl⟩;refine DLoop.run I (fun kn => (parts e).length - kn.1) (0, n - 1) ((hI _ _ _).2 ?_) ?_
   ·simp (disch := omega) only [go_sem];(repeat' apply And.intro) <;> (try first | rfl | assumption | omega)
   ·rintro ⟨k, m⟩ env heap hi;obtain ⟨e1, e2, e7, e8, hk, hm0, hm1, hr, rfl⟩ := (hI _ _ _).1 hi;dsimp only at e2 e8 hk hm0 hm1 hr;by_cases hlt : k < (parts e).length
    ·have hlt' : (k : Int) < ((parts e).length : Int) := by omega
     have hget := flat_el dEx_len (parts e) k hlt;have hwk : IntKind.i64.wrap ((k : Int) + 1) = ((k + 1 : Nat) : Int) := by rw [IntKind.wrap_i64]; omega
     have hmem := List.getElem_mem hlt;by_cases hm : 0 ≤ m
     ·rw [if_pos hm, ← roomL_step hlt hm] at hr;have hrr : -1 ≤ roomE (parts e)[k] (d + 1) m ∧ roomE (parts e)[k] (d + 1) m ≤ 256 := by unfold roomE; split <;> omega
      simp (disch := omega) only [go_sem, e1, e2, e7, e8, hlt', hm, hget, hfp, hwd, Int.toNat_natCast];refine (ih _ hmem _ (d + 1) m (by have := bigE_parts hmem; omega) (by omega) hm (by omega)).mono ?_;rintro _ H2 ⟨rfl, rfl⟩;simp (disch := omega) only [go_sem, e1, e2, e7, e8];refine ⟨(k + 1, roomE (parts e)[k] (d + 1) m), _, GhostS.refl _, (hI _ _ _).2 ?_, by dsimp only; omega⟩;simp (disch := omega) only [go_sem, e1, e2, e7, e8, hwk];(repeat' apply And.intro) <;> (try first | rfl | assumption | omega)
     ·rw [if_neg hm] at hr;have hm2 : m = -1 := by omega
      simp (disch := omega) only [go_sem, e1, e2, e7, e8, hlt', hm];refine DFin.dropA r3 hr3 (DFin.refl ⟨?_, rfl⟩);rw [hr, hm2]
    ·have : k = (parts e).length := by omega
     subst this;have hlt' : ¬ ((parts e).length : Int) < ((parts e).length : Int) := by omega
     simp (disch := omega) only [go_sem, e1, e2, e7, e8, hlt'];refine DFin.dropA r3 hr3 (DFin.refl ⟨?_, rfl⟩);rw [hr, List.drop_length];split
     ·simp [roomL, sumE]; omega
     ·congr 2; omega
theorem rmay_spec (G : Nat → DVal) (H : DHeap) (e : Ex) (hb : bigE e ≤ 100000000000) : DCalls Tryz.prog G 12 [.agg (dEx e)] H (DRet (.bool (mayE e)) H) := by
 refine dcalls_intro Tryz.func12 Tryz.call12 rfl (by kernel_rfl) ?_;simp (disch := omega) only [go_sem, DVal.cells];intro r hr; dsimp only at hr;simp (disch := omega) only [go_sem];refine (room_spec G e _ 1 256 hb (by decide) (by decide) (by decide)).mono ?_;rintro _ H1 ⟨rfl, rfl⟩;simp (disch := omega) only [go_sem];refine DFin.dropA r hr (DFin.refl ⟨?_, rfl⟩);have : (0 ≤ roomE e 1 256) ↔ (validE 1 e = true ∧ sizeE e ≤ 256) := by
  unfold roomE;split
  ·constructor
   ·intro _; exact ⟨by simp_all, by omega⟩
   ·intro _; omega
  ·rename_i h
   constructor
   ·intro h2; omega
   ·rintro ⟨h2, h3⟩; exact absurd ⟨h2, by omega⟩ h
 rw [mayE];cases hv : validE 1 e with
 | true =>
  rw [hv] at this;simp [this]
 | false =>
  rw [hv] at this;simp [this]
end
end Go.Dl

-- THE DATA LEVEL, PART N: a call that is put off to the end, and takes up a panic there.
namespace Go.Dl
open Go
set_option maxRecDepth 10000
section
variable {P : Program} {G : Nat → DVal}
theorem sim_enter {fn : Func} {args : List DVal} {H : DHeap} {vs : List Value} {w : World} {T : List Deferred} {st : Bool} (hA : args.length ≤ fn.ntmps) (hv : RelL w H args vs) (hH : SimHeap w H) (hG : GOk G w H) :
  Sim G ⟨fn.ntmps, ⟨w.heap.size, T, st⟩⟩ ⟨dargs args 0, H⟩ { tmps := vs.toArray ++ Array.replicate (fn.ntmps - vs.toArray.size) undef, defers := T } w := by
 have hl := hv.length;refine ⟨by simp; omega, ⟨[], rfl, List.nodup_nil, by simp⟩, fun i hi => ?_, hH, hG, Nat.le_refl _⟩;have h0 := dargs_get args 0 i;rw [Nat.zero_add] at h0;show Rel w H (dargs args 0 i) _;rw [h0];by_cases hlt : i < args.length
 ·have h1 : args[i]? = some (args.getD i dundef) := by simp [List.getD, List.getElem?_eq_getElem hlt]
  obtain ⟨x, hx, hr⟩ := hv.get h1;have : (vs.toArray ++ Array.replicate (fn.ntmps - vs.toArray.size) undef).getD i undef = x := by
   have hlt' : i < vs.length := by omega
   rw [Array.getD_eq_getD_getElem?, Array.getElem?_append_left (by simpa using hlt')];simp [hx]
  rw [this]; exact hr
 ·have h1 : args.getD i dundef = dundef := by simp [List.getD, List.getElem?_eq_none (Nat.le_of_not_lt hlt)]
  have : (vs.toArray ++ Array.replicate (fn.ntmps - vs.toArray.size) undef).getD i undef = undef := by
   rw [Array.getD_eq_getD_getElem?, Array.getElem?_append_right (by simp; omega)];simp only [Array.getElem?_replicate];split <;> rfl
  rw [h1, this];exact rel_dundef w H
def DLateQ (R : DHeap → Prop) : DExit → DS → Prop
 | .normal, s => R s.heap
 | .ret, s => R s.heap
 | _, _ => False
def recOp (t ty : Nat) (ps : String) (af : Array Edge) : Oper := { dst := some t, op := .call { callee := .builtin .recover, args := #[], argTypes := #[] }, type := ty, pos := ps, after := af, guard := none }
def asgOp (t t' ty : Nat) (ps : String) (af : Array Edge) : Oper := { dst := some t', op := .assign (.tmp t), type := ty, pos := ps, after := af, guard := none }
theorem still_defers {N : Fr} {s : DS} {a : Act} {w : World} (hS : Sim G N s a w) (h : N.base.still = true) : a.defers = N.base.late := by
 obtain ⟨Ds, h1, _, h3⟩ := hS.defers;cases Ds with
 | nil => exact h1
 | cons D Ds => have := (h3 D (by simp)).1.2; rw [h] at this; cases this
theorem opsS_recN {n : Nat} {ops : Array Oper} {Q : Exit → Act → List Frame → World → Prop} {i : Nat} {rest : List Nat} {a : Act} {cs : List Frame} {w : World} {o : Oper} (ho : ops[i]? = some o) (hg : o.guard = none) (hr : (execOp a.eval o).run P w = .ok .recover w) (hc : recoverD cs = none)
  (h : wpOpsSIn Fence.wide n P ops Q rest (a.put o.dst .nilIface) cs w) : wpOpsSIn Fence.wide n P ops Q (i :: rest) a cs w := by
 unfold wpOpsSIn;rw [ho];refine ⟨fun _ _ => trivial, ?_⟩;rw [if_pos (by simp [Region.wanted, hg]), hr, hc];exact h
theorem opsS_rec {n : Nat} {ops : Array Oper} {Q : Exit → Act → List Frame → World → Prop} {i : Nat} {rest : List Nat} {a : Act} {cs cs' : List Frame} {w : World} {o : Oper} {v : Value} (ho : ops[i]? = some o) (hg : o.guard = none) (hr : (execOp a.eval o).run P w = .ok .recover w) (hc : recoverD cs = some (v, cs'))
  (h : wpOpsSIn Fence.wide n P ops Q rest (a.put o.dst v) cs' w) : wpOpsSIn Fence.wide n P ops Q (i :: rest) a cs w := by
 unfold wpOpsSIn;rw [ho];refine ⟨fun _ _ => trivial, ?_⟩;rw [if_pos (by simp [Region.wanted, hg]), hr, hc];exact h
theorem opsS_val {n : Nat} {ops : Array Oper} {Q : Exit → Act → List Frame → World → Prop} {i : Nat} {rest : List Nat} {a : Act} {cs : List Frame} {w : World} {o : Oper} {v : Value} (ho : ops[i]? = some o) (hg : o.guard = none) (hr : (execOp a.eval o).run P w = .ok (.value v) w)
  (h : wpOpsSIn Fence.wide n P ops Q rest (a.put o.dst v) cs w) : wpOpsSIn Fence.wide n P ops Q (i :: rest) a cs w := by
 unfold wpOpsSIn;rw [ho];refine ⟨fun _ _ => trivial, ?_⟩;rw [if_pos (by simp [Region.wanted, hg]), hr];exact h
theorem callsD_late {f : FuncId} {fn : Func} {id : Nat} {t1 t2 y1 y2 : Nat} {p1 p2 : String} {af1 af2 : Array Edge} {c : Code} {caps : List DVal} {H : DHeap} {R : DHeap → Prop} {n : Nat} {vs : List Value} {w : World} {u : FrameMode} {x : DVal}
  (hf : P.funcs[f]? = some fn) (hb : fn.body = some (.seq (.region id #[recOp t1 y1 p1 af1, asgOp t1 t2 y2 p2 af2] false) c))
  (hk : (decide (caps.length ≤ fn.ntmps) && codeOk fn.ntmps c && flat c && decide (t1 < fn.ntmps) && decide (t2 < fn.ntmps)) = true) (hres : fn.results = #[])
  (hv : RelL w H caps vs) (hH : SimHeap w H) (hG : GOk G w H)
  (hu : (u = .returning ∧ x = .nilIface) ∨ ∃ v, u = .panicking [{ v, recovered := false }] ∧ Rel w H x v)
  (h : dwp P G fn.ntmps c (DLateQ R) ⟨upd (upd (dargs caps 0) t1 x) t2 x, H⟩) :
  CallsDIn Fence.wide n P f vs.toArray u w fun e u' w' => ∃ v H', e = .returned v ∧ settle u' = .returning ∧ R H' ∧ SimHeap w' H' ∧ Ext H w H' w' := by
 simp only [Bool.and_eq_true, decide_eq_true_eq] at hk;obtain ⟨⟨⟨⟨hA, hok⟩, hfl⟩, ht1⟩, ht2⟩ := hk;refine callsDIn_of_wpSIn hf hb trivial fun c₀ cs hm => wpSIn_seq (wpSIn_region ?_);have hS := sim_enter (G := G) (T := []) (st := true) hA hv hH hG;have key : ∀ (v : Value) (u' : FrameMode), settle u' = .returning → Rel w H x v →
   c.wpSIn Fence.wide n P (bodyPostS P fn c₀ cs fun e u' w' => ∃ v H', e = .returned v ∧ settle u' = .returning ∧ R H' ∧ SimHeap w' H' ∧ Ext H w H' w')
    (({ tmps := vs.toArray ++ Array.replicate (fn.ntmps - vs.toArray.size) undef, defers := [] } : Act).put (some t1) v |>.put (some t2) v) ({ c₀ with mode := u' } :: cs) w := by
  intro v u' hs hx;refine wpSIn_of_wpIn rfl ?_;have hS1 := (hS.put (dst := some t1) (by simpa [dstOk] using ht1) hx).put (dst := some t2) (by simpa [dstOk] using ht2) hx;refine wpIn_mono (dwp_soundF (.inl rfl) c hok (.inr hfl) _ _ h _ w hS1) ?_;rintro e a' w1 ⟨e', s', hQ, hX, hS', hE⟩;have hd := still_defers hS' rfl;have hr : (results fn a'.tmps).run P w1 = .ok (.tuple #[]) w1 := by
   unfold results;rw [hres];simp [Sem.run_pure]
  cases hX with
  | normal => exact ⟨hd, u', rfl, _, hr, _, s'.heap, rfl, hs, hQ, hS'.heap, hE⟩
  | ret => exact ⟨hd, u', rfl, _, hr, _, s'.heap, rfl, hs, hQ, hS'.heap, hE⟩
  | exit id => exact hQ.elim
  | goto l => exact hQ.elim
  | panic d v hv => exact hQ.elim
 have hrange : List.range (#[recOp t1 y1 p1 af1, asgOp t1 t2 y2 p2 af2] : Array Oper).size = [0, 1] := rfl;have e0 : (#[recOp t1 y1 p1 af1, asgOp t1 t2 y2 p2 af2] : Array Oper)[0]? = some (recOp t1 y1 p1 af1) := rfl;have e1 : (#[recOp t1 y1 p1 af1, asgOp t1 t2 y2 p2 af2] : Array Oper)[1]? = some (asgOp t1 t2 y2 p2 af2) := rfl;have r0 : ∀ ρ w, (execOp ρ (recOp t1 y1 p1 af1)).run P w = .ok .recover w := fun ρ w => by
  simp [execOp, recOp, resolve, invoke, builtin, Sem.run_pure]
 have r1 : ∀ ρ w, (execOp ρ (asgOp t1 t2 y2 p2 af2)).run P w = .ok (.value (ρ (.tmp t1))) w := fun ρ w => by
  simp [execOp, asgOp, Sem.run_pure]
 have hget : ∀ v, (({ tmps := vs.toArray ++ Array.replicate (fn.ntmps - vs.toArray.size) undef, defers := [] } : Act).put (some t1) v).eval (.tmp t1) = v := fun v => by
  have hsz := hS.size;dsimp only at hsz;simp [Act.eval, Act.put, Array.getD, hsz, ht1];intro hle;simp at hsz;omega
 rw [hrange];rcases hu with ⟨rfl, rfl⟩ | ⟨v, rfl, hx⟩
 ·have hr : recoverD (c₀ :: cs) = none := by simp [recoverD, hm]
  have hc : { c₀ with mode := .returning } = c₀ := by cases c₀; simp at hm; simp [hm]
  refine opsS_recN e0 rfl (r0 _ _) hr (opsS_val e1 rfl (r1 _ _) ?_);rw [show (recOp t1 y1 p1 af1).dst = some t1 from rfl, hget];have := key .nilIface .returning rfl (by simp [Rel]);rw [hc] at this;exact this
 ·have hr : recoverD (c₀ :: cs) = some (v, { c₀ with mode := .panicking [{ v, recovered := true }] } :: cs) := by simp [recoverD, hm]
  refine opsS_rec e0 rfl (r0 _ _) hr (opsS_val e1 rfl (r1 _ _) ?_);rw [show (recOp t1 y1 p1 af1).dst = some t1 from rfl, hget];exact key v _ rfl hx
theorem devs_len (env : Nat → DVal) : ∀ l : List Operand, (devs G env l).length = l.length
 | [] => rfl
 | x :: l => by rw [devs, List.length_cons, devs_len env l, List.length_cons]
def mfOp (d : Nat) (g : FuncId) (caps : Array Operand) (ty : Nat) (ps : String) (af : Array Edge) : Oper := { dst := some d, op := .makeFunc (.func g) #[] caps, type := ty, pos := ps, after := af, guard := none }
def dfOp (d ty : Nat) (ps : String) (af : Array Edge) : Oper := { dst := none, op := .defer { callee := .value (.tmp d), args := #[], argTypes := #[] }, type := ty, pos := ps, after := af, guard := none }
def DLateEnd (P : Program) (G : Nat → DVal) (rs : List ResultVar) (R : DEnd → DHeap → Prop) (m t1 t2 : Nat) (cc : Code) (caps : List DVal) : DExit → DS → Prop
 | .normal, s => dwp P G m cc (DLateQ fun H' => DFinO R H' (dTuple (dResL P ⟨s.env, H'⟩ rs))) ⟨upd (upd (dargs caps 0) t1 .nilIface) t2 .nilIface, s.heap⟩
 | .ret, s => dwp P G m cc (DLateQ fun H' => DFinO R H' (dTuple (dResL P ⟨s.env, H'⟩ rs))) ⟨upd (upd (dargs caps 0) t1 .nilIface) t2 .nilIface, s.heap⟩
 | .panic v, s => dwp P G m cc (DLateQ fun H' => DFinO R H' (dTuple (dResL P ⟨s.env, H'⟩ rs))) ⟨upd (upd (dargs caps 0) t1 v) t2 v, s.heap⟩
 | _, _ => False
theorem dcalls_late {f g : FuncId} {fn fg : Func} {A1 A2 C cc : Code} {id id2 d t1 t2 y1 y2 y3 y4 : Nat} {p1 p2 p3 p4 : String} {af1 af2 af3 af4 : Array Edge} {caps : Array Operand} {args : List DVal} {H : DHeap} {R : DEnd → DHeap → Prop}
  (hf : P.funcs[f]? = some fn) (hg : P.funcs[g]? = some fg) (hcall : ∀ vs w, (callFunc f vs).run P w = .ok (.enter f vs) w) (hcallg : ∀ vs w, (callFunc g vs).run P w = .ok (.enter g vs) w)
  (hb : fn.body = some (.seq A1 (.seq A2 (.seq (.region id #[mfOp d g caps y1 p1 af1, dfOp d y2 p2 af2] false) C))))
  (hbg : fg.body = some (.seq (.region id2 #[recOp t1 y3 p3 af3, asgOp t1 t2 y4 p4 af4] false) cc))
  (hk : (decide (args.length ≤ fn.ntmps) && (codeOk fn.ntmps A1 && flat A1) && (codeOk fn.ntmps A2 && flat A2) && (codeOk fn.ntmps C && flat C) && decide (d < fn.ntmps) && caps.toList.all (opdOk fn.ntmps) && fn.results.toList.all (resOk fn.ntmps)) = true)
  (hkg : (decide (caps.toList.length ≤ fg.ntmps) && codeOk fg.ntmps cc && flat cc && decide (t1 < fg.ntmps) && decide (t2 < fg.ntmps)) = true) (hrg : fg.results = #[])
  (h : dwp P G fn.ntmps A1 (DSeqQ (fun s => dwp P G fn.ntmps A2 (DSeqQ (fun s1 => dwp P G fn.ntmps C (DLateEnd P G fn.results.toList R fg.ntmps t1 t2 cc (devs G s1.env caps.toList)) ⟨upd s1.env d (.func (.func g) [] (devs G s1.env caps.toList)), s1.heap⟩) fun _ _ => False) s) fun _ _ => False) ⟨dargs args 0, H⟩) : DCalls P G f args H R := by
 simp only [Bool.and_eq_true, decide_eq_true_eq] at hk;obtain ⟨⟨⟨⟨⟨⟨hA, hok1, hfl1⟩, hok2, hfl2⟩, hok3, hfl3⟩, hd⟩, hcp⟩, hres⟩ := hk;refine ⟨hcall, fun vs w hv hH hG => ?_⟩;refine (callsIn_wide (n := 0)).1 (callsIn_of_wp_marks hf hb trivial ?_);have hS := sim_enter (G := G) (T := []) (st := true) hA hv hH hG;refine wpIn_seq (wpIn_mono (dwp_soundF (.inl rfl) A1 hok1 (.inr hfl1) _ _ h _ w hS) ?_);rintro e a0 w0 ⟨e', s0, hQ, hX, hS0, hE0⟩;cases hX <;> first | exact hQ.elim | skip
 refine wpIn_seq (wpIn_mono (dwp_soundF (.inl rfl) A2 hok2 (.inr hfl2) _ _ hQ _ w0 hS0) ?_);rintro e a1 w1 ⟨e', s1, hQ1, hX, hS1, hE1⟩;cases hX <;> first | exact hQ1.elim | skip
 have hE1 := hE0.trans hE1;have hd1 : a1.defers = [] := still_defers hS1 rfl;have hrc := rel_devs hS1 hcp;obtain ⟨cv, hcv⟩ : ∃ cv : List Value, cv = caps.toList.map a1.eval := ⟨_, rfl⟩;have hcv2 : caps.map a1.eval = cv.toArray := by rw [hcv, ← Array.toList_map]
 rw [← hcv] at hrc;have hfv : Rel w1 s1.heap (.func (.func g) [] (devs G s1.env caps.toList)) (.func (.func g) #[] cv.toArray) := by
  simp only [Rel];refine ⟨#[], cv.toArray, rfl, ?_, ?_⟩
  ·simp [RelL]
  ·simpa using hrc
 obtain ⟨D, hD⟩ : ∃ D : Deferred, D = { target := .fn (.func g) cv.toArray, args := #[] } := ⟨_, rfl⟩;have hS2 : Sim G ⟨fn.ntmps, ⟨w.heap.size, [D], true⟩⟩ ⟨upd s1.env d (.func (.func g) [] (devs G s1.env caps.toList)), s1.heap⟩ ({ (a1.put (some d) (.func (.func g) #[] cv.toArray)) with defers := [D] }) w1 := by
  have := hS1.put (dst := some d) (by simpa [dstOk] using hd) hfv;exact ⟨this.size, ⟨[], rfl, List.nodup_nil, by simp⟩, this.tmps, this.heap, this.glob, this.base⟩
 refine wpIn_seq ?_;have hreg : #[mfOp d g caps y1 p1 af1, dfOp d y2 p2 af2] = [mfOp d g caps y1 p1 af1, dfOp d y2 p2 af2].toArray := rfl;rw [hreg];refine wpIn_region_lit (wpListIn_plain rfl fun K hK => ?_);have rm : (execOp a1.eval (mfOp d g caps y1 p1 af1)).run P w1 = .ok (.value (.func (.func g) #[] cv.toArray)) w1 := by
  simp [execOp, mfOp, Instr.makeFunc, Sem.run_pure, hcv2]
 have hsz := hS1.size;have hget : (a1.put (some d) (.func (.func g) #[] cv.toArray)).eval (.tmp d) = .func (.func g) #[] cv.toArray := by
  simp [Act.eval, Act.put, Array.getD, hsz, hd]
 have rd : (execOp (a1.put (some d) (.func (.func g) #[] cv.toArray)).eval (dfOp d y2 p2 af2)).run P w1 = .ok (.defer D) w1 := by
  simp [execOp, dfOp, resolve, hget, Deferred.ofValue, Sem.run_pure, hD]
 unfold Oper.wpIn;refine ⟨fun _ _ => trivial, ?_⟩;rw [Oper.semAt_eq _ _ _ (by intro c; simp [mfOp]), rm];refine hK _ _ (wpListIn_plain rfl fun K2 hK2 => ?_);unfold Oper.wpIn;refine ⟨fun _ _ => trivial, ?_⟩;rw [show Fence.wide.round = none from rfl, Oper.semAt_none, show (mfOp d g caps y1 p1 af1).dst = some d from rfl, rd];refine hK2 _ _ (wpListIn_nil ?_);have hdp : (a1.put (some d) (.func (.func g) #[] cv.toArray)).defers = [] := hd1;rw [hdp];show C.wpIn _ _ _ _ _ _;refine wpIn_mono (dwp_soundF (.inl rfl) C hok3 (.inr hfl3) _ _ hQ1 _ w1 hS2) ?_;rintro e a3 w3 ⟨e', s3, hQ3, hX3, hS3, hE3⟩;have hE3' := hE1.trans hE3;have hd3 : a3.defers = [D] := still_defers hS3 rfl;have hrc3 : RelL w3 s3.heap (devs G s1.env caps.toList) cv := hrc.lasts hE3.lasts;have hinv : (invoke D.target D.args).run P w3 = .ok (.enter g cv.toArray) w3 := by
  rw [hD]; simp [invoke, hcallg]
 have key : ∀ (u : FrameMode) (x : DVal), u ≠ .run → ((u = .returning ∧ x = .nilIface) ∨ ∃ v, u = .panicking [{ v, recovered := false }] ∧ Rel w3 s3.heap x v) →
   dwp P G fg.ntmps cc (DLateQ fun H' => DFinO R H' (dTuple (dResL P ⟨s3.env, H'⟩ fn.results.toList))) ⟨upd (upd (dargs (devs G s1.env caps.toList) 0) t1 x) t2 x, s3.heap⟩ →
   LeavesInM Fence.wide 0 P fn a3.tmps (fun e w' => ∃ e' H', R e' H' ∧ RelE w' H' e' e ∧ SimHeap w' H' ∧ Ext H w H' w') a3.defers u w3 := by
  intro u x hu0 hu hc;rw [hd3];refine ⟨hu0, .inr ⟨(fun h => by cases h), .func g, cv.toArray, g, cv.toArray, (by rw [hD]), hinv, fun _ _ => trivial, ?_⟩⟩;refine (callsD_late hg hbg (by rw [devs_len]; exact (by simp only [Bool.and_eq_true, decide_eq_true_eq] at hkg ⊢; exact hkg)) hrg hrc3 hS3.heap hS3.glob hu hc).mono ?_;rintro e4 u4 w4 ⟨v4, H4, rfl, hset, hfin, hH4, hE4⟩;dsimp only;rw [hset];have hS4 := hS3.ext hE4 hH4;cases hdt : dTuple (dResL P ⟨s3.env, H4⟩ fn.results.toList) with
  | none => rw [hdt] at hfin; exact hfin.elim
  | some v =>
   rw [hdt] at hfin;obtain ⟨x, hx, hr⟩ := results_rel (P := P) hS4 hres hdt;obtain ⟨v', H', hgg, hR⟩ := hfin;obtain ⟨g1, g2, g3⟩ := hgg w4 hS4.heap;exact ⟨x, hx, .ret v', H', hR, .ret v' x (g3 x hr), g1, (hE3'.trans hE4).trans ⟨rfl, rfl, rfl, Nat.le_refl _, fun _ _ _ => rfl, fun b hb => .inl (g2 b hb), fun _ _ => rfl, fun _ _ _ => rfl⟩⟩
 cases hX3 with
 | normal => exact key .returning .nilIface (by simp) (.inl ⟨rfl, rfl⟩) hQ3
 | ret => exact key .returning .nilIface (by simp) (.inl ⟨rfl, rfl⟩) hQ3
 | exit id => exact hQ3.elim
 | goto l => exact hQ3.elim
 | panic d v hv => exact key _ d (by simp) (.inr ⟨v, rfl, hv⟩) hQ3
end
attribute [go_sem] DLateQ.eq_1 DLateQ.eq_2 DLateEnd.eq_1 DLateEnd.eq_2 DLateEnd.eq_3
end Go.Dl
