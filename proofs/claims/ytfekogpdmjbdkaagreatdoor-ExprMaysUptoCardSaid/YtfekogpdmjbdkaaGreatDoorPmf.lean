/- The data level and the contracts of the functions that are reached (part 6). -/
import Derived.Test.YtfekogpdmjbdkaaGreatDoorPme
set_option linter.unusedSimpArgs false
set_option linter.unusedVariables false
-- Chapter 3: Size, Level, Same, SameArgs, SameChoices (printed by gen_ua.py).
namespace Go.Dl
open Go Go.Proofs
set_option maxRecDepth 100000
def eqF {α : Type} (p : α → α → Bool) : List α → List α → Bool
 | [], [] => true
 | x :: l, y :: m => p x y && eqF p l m
 | _, _ => false
theorem eqF_len {α : Type} {p : α → α → Bool} : ∀ {l m : List α}, eqF p l m = true → l.length = m.length
 | [], [], _ => rfl
 | [], _ :: _, h => by cases h
 | _ :: _, [], h => by cases h
 | x :: l, y :: m, h => by
  rw [eqF, Bool.and_eq_true] at h
  rw [List.length_cons, List.length_cons, eqF_len h.2]
theorem eqF_ne {α : Type} {p : α → α → Bool} {l m : List α} (h : l.length ≠ m.length) : eqF p l m = false := by
 cases e : eqF p l m with
 | false => rfl
 | true => exact absurd (eqF_len e) h
theorem eqF_step {α : Type} {p : α → α → Bool} {l m : List α} {k : Nat} (h1 : k < l.length) (h2 : k < m.length) : eqF p (l.drop k) (m.drop k) = (p l[k] m[k] && eqF p (l.drop (k + 1)) (m.drop (k + 1))) := by
 rw [List.drop_eq_getElem_cons h1, List.drop_eq_getElem_cons h2, eqF]
theorem sameLE_eqF : ∀ l m : List Ex, sameLE l m = eqF sameE l m
 | [], [] => by simp [sameLE, eqF]
 | [], _ :: _ => by simp [sameLE, eqF]
 | _ :: _, [] => by simp [sameLE, eqF]
 | x :: l, y :: m => by rw [sameLE, eqF, sameLE_eqF l m]
theorem sameAs_eqF : ∀ l m : List As, sameAs l m = eqF sameA l m
 | [], [] => by simp [sameAs, eqF]
 | [], _ :: _ => by simp [sameAs, eqF]
 | _ :: _, [] => by simp [sameAs, eqF]
 | x :: l, y :: m => by rw [sameAs, eqF, sameAs_eqF l m]
theorem sameCs_eqF : ∀ l m : List Ch, sameCs l m = eqF sameC l m
 | [], [] => by simp [sameCs, eqF]
 | [], _ :: _ => by simp [sameCs, eqF]
 | _ :: _, [] => by simp [sameCs, eqF]
 | x :: l, y :: m => by rw [sameCs, eqF, sameCs_eqF l m]
theorem sameA_eq (x y : As) : sameA x y = (sameCs x.c y.c && sameE x.e y.e) := by cases x; rw [sameA]; rfl
theorem sameC_eq (x y : Ch) : sameC x y = (decide (x.kind = y.kind) && sameLE x.l y.l) := by cases x; rw [sameC]; rfl
theorem equalEx (G : Nat → DVal) (H : DHeap) (p : Ex → Ex → Bool) (l m : List Ex) (g : FuncId) (hl : l.length ≤ 1099511627776)
  (hp : ∀ x ∈ l, ∀ y ∈ m, ∀ H, DCalls Tryz.prog G g ([] ++ [.agg (dEx x), .agg (dEx y)] ++ []) H (DRet (.bool (p x y)) H)) :
  DCalls Tryz.prog G 71 [.vslice (l.flatMap dEx) l.length, .vslice (m.flatMap dEx) m.length, .func (.func g) [] []] H (DRet (.bool (eqF p l m)) H) := by
 refine dcalls_intro Tryz.func71 Tryz.call71 rfl (by kernel_rfl) ?_
 by_cases hlen : l.length = m.length
 ·have hlen' : (l.length : Int) = (m.length : Int) := by omega
  simp (disch := omega) only [go_sem, hlen']
  obtain ⟨I, hI⟩ : ∃ I : Nat → (Nat → DVal) → DHeap → Prop, ∀ k env heap, I k env heap ↔ (env 0 = .vslice (l.flatMap dEx) l.length ∧ env 1 = .vslice (m.flatMap dEx) m.length ∧ env 2 = .func (.func g) [] [] ∧ env 15 = .vslice (l.flatMap dEx) l.length ∧ env 16 = dI m.length ∧ env 17 = dI k ∧ k ≤ l.length ∧ eqF p l m = eqF p (l.drop k) (m.drop k) ∧ Sub H heap) := ⟨_, fun _ _ _ => Iff.rfl⟩
  refine DLoop.run I (fun k => l.length - k) 0 ((hI _ _ _).2 ?_) ?_
  ·simp (disch := omega) only [go_sem]
   (repeat' apply And.intro) <;> (try first | rfl | assumption | omega)
   exact Sub.refl _
  ·intro k env heap hi
   obtain ⟨e0, e1, e2, e15, e16, e17, hk, hsm, hsub⟩ := (hI _ _ _).1 hi
   have hfl := flat_len dEx_len l
   have hfm := flat_len dEx_len m
   by_cases hlt : k < l.length
   ·have hlt' : (k : Int) < (m.length : Int) := by omega
    have hlt2 : (k : Int) < (l.length : Int) := by omega
    have hkm : k < m.length := by omega
    have hget := flat_el dEx_len l k hlt
    have hgetm := flat_el dEx_len m k hkm
    have hwd : IntKind.i64.wrap ((k : Int) + 1) = ((k + 1 : Nat) : Int) := by rw [IntKind.wrap_i64]; omega
    simp (disch := omega) only [go_sem, e0, e1, e2, e15, e16, e17, hlt', hlt2, hget, hgetm, hfl, hfm, Int.toNat_natCast]
    intro r8 hr8; dsimp only at hr8
    simp (disch := omega) only [go_sem, e0, e1, e2, e15, e16, e17, hlt', hlt2, hget, hgetm, hfl, hfm, Int.toNat_natCast]
    intro r9 hr9; dsimp only at hr9
    obtain ⟨m2, m1, hr9'⟩ := upd_eq_none.1 hr9
    simp (disch := omega) only [go_sem, e0, e1, e2, e15, e16, e17, m1, m2, hget, hgetm, hfl, hfm, Int.toNat_natCast]
    refine (hp l[k] (List.getElem_mem hlt) m[k] (List.getElem_mem hkm) _).mono ?_
    rintro _ H1 ⟨rfl, rfl⟩
    rw [eqF_step hlt hkm] at hsm
    have hs1 := (hsub.new hr8 (some (DObj.cells (dEx l[k]) 27))).new hr9 (some (DObj.cells (dEx m[k]) 27))
    cases hb : p l[k] m[k] with
    | true =>
     rw [hb, Bool.true_and] at hsm
     simp (disch := omega) only [go_sem, e0, e1, e2, e15, e16, e17]
     refine ⟨k + 1, _, GhostS.refl _, (hI _ _ _).2 ?_, by omega⟩
     simp (disch := omega) only [go_sem, e0, e1, e2, e15, e16, e17, hwd]
     (repeat' apply And.intro) <;> (try first | rfl | assumption | omega)
    | false =>
     rw [hb, Bool.false_and] at hsm
     simp (disch := omega) only [go_sem, e0, e1, e2, e15, e16, e17]
     exact DFin.sub hs1 (DFin.refl ⟨by rw [hsm], rfl⟩)
   ·have : k = l.length := by omega
    subst this
    have hlt' : ¬ (l.length : Int) < (m.length : Int) := by omega
    simp (disch := omega) only [go_sem, e0, e1, e2, e15, e16, e17, hlt']
    refine DFin.sub hsub (DFin.refl ⟨?_, rfl⟩)
    rw [hsm, List.drop_length, hlen, List.drop_length]; rfl
 ·have hlen' : ¬ (l.length : Int) = (m.length : Int) := by omega
  simp (disch := omega) only [go_sem, hlen']
  exact DFin.refl ⟨by rw [eqF_ne hlen], rfl⟩
theorem equalAs (G : Nat → DVal) (H : DHeap) (p : As → As → Bool) (l m : List As) (g : FuncId) (hl : l.length ≤ 1099511627776)
  (hp : ∀ x ∈ l, ∀ y ∈ m, ∀ H, DCalls Tryz.prog G g ([] ++ [.agg (dAs x), .agg (dAs y)] ++ []) H (DRet (.bool (p x y)) H)) :
  DCalls Tryz.prog G 81 [.vslice (l.flatMap dAs) l.length, .vslice (m.flatMap dAs) m.length, .func (.func g) [] []] H (DRet (.bool (eqF p l m)) H) := by
 refine dcalls_intro Tryz.func81 Tryz.call81 rfl (by kernel_rfl) ?_
 by_cases hlen : l.length = m.length
 ·have hlen' : (l.length : Int) = (m.length : Int) := by omega
  simp (disch := omega) only [go_sem, hlen']
  obtain ⟨I, hI⟩ : ∃ I : Nat → (Nat → DVal) → DHeap → Prop, ∀ k env heap, I k env heap ↔ (env 0 = .vslice (l.flatMap dAs) l.length ∧ env 1 = .vslice (m.flatMap dAs) m.length ∧ env 2 = .func (.func g) [] [] ∧ env 15 = .vslice (l.flatMap dAs) l.length ∧ env 16 = dI m.length ∧ env 17 = dI k ∧ k ≤ l.length ∧ eqF p l m = eqF p (l.drop k) (m.drop k) ∧ Sub H heap) := ⟨_, fun _ _ _ => Iff.rfl⟩
  refine DLoop.run I (fun k => l.length - k) 0 ((hI _ _ _).2 ?_) ?_
  ·simp (disch := omega) only [go_sem]
   (repeat' apply And.intro) <;> (try first | rfl | assumption | omega)
   exact Sub.refl _
  ·intro k env heap hi
   obtain ⟨e0, e1, e2, e15, e16, e17, hk, hsm, hsub⟩ := (hI _ _ _).1 hi
   have hfl := flat_len dAs_len l
   have hfm := flat_len dAs_len m
   by_cases hlt : k < l.length
   ·have hlt' : (k : Int) < (m.length : Int) := by omega
    have hlt2 : (k : Int) < (l.length : Int) := by omega
    have hkm : k < m.length := by omega
    have hget := flat_el dAs_len l k hlt
    have hgetm := flat_el dAs_len m k hkm
    have hwd : IntKind.i64.wrap ((k : Int) + 1) = ((k + 1 : Nat) : Int) := by rw [IntKind.wrap_i64]; omega
    simp (disch := omega) only [go_sem, e0, e1, e2, e15, e16, e17, hlt', hlt2, hget, hgetm, hfl, hfm, Int.toNat_natCast]
    intro r8 hr8; dsimp only at hr8
    simp (disch := omega) only [go_sem, e0, e1, e2, e15, e16, e17, hlt', hlt2, hget, hgetm, hfl, hfm, Int.toNat_natCast]
    intro r9 hr9; dsimp only at hr9
    obtain ⟨m2, m1, hr9'⟩ := upd_eq_none.1 hr9
    simp (disch := omega) only [go_sem, e0, e1, e2, e15, e16, e17, m1, m2, hget, hgetm, hfl, hfm, Int.toNat_natCast]
    refine (hp l[k] (List.getElem_mem hlt) m[k] (List.getElem_mem hkm) _).mono ?_
    rintro _ H1 ⟨rfl, rfl⟩
    rw [eqF_step hlt hkm] at hsm
    have hs1 := (hsub.new hr8 (some (DObj.cells (dAs l[k]) 47))).new hr9 (some (DObj.cells (dAs m[k]) 47))
    cases hb : p l[k] m[k] with
    | true =>
     rw [hb, Bool.true_and] at hsm
     simp (disch := omega) only [go_sem, e0, e1, e2, e15, e16, e17]
     refine ⟨k + 1, _, GhostS.refl _, (hI _ _ _).2 ?_, by omega⟩
     simp (disch := omega) only [go_sem, e0, e1, e2, e15, e16, e17, hwd]
     (repeat' apply And.intro) <;> (try first | rfl | assumption | omega)
    | false =>
     rw [hb, Bool.false_and] at hsm
     simp (disch := omega) only [go_sem, e0, e1, e2, e15, e16, e17]
     exact DFin.sub hs1 (DFin.refl ⟨by rw [hsm], rfl⟩)
   ·have : k = l.length := by omega
    subst this
    have hlt' : ¬ (l.length : Int) < (m.length : Int) := by omega
    simp (disch := omega) only [go_sem, e0, e1, e2, e15, e16, e17, hlt']
    refine DFin.sub hsub (DFin.refl ⟨?_, rfl⟩)
    rw [hsm, List.drop_length, hlen, List.drop_length]; rfl
 ·have hlen' : ¬ (l.length : Int) = (m.length : Int) := by omega
  simp (disch := omega) only [go_sem, hlen']
  exact DFin.refl ⟨by rw [eqF_ne hlen], rfl⟩
theorem equalCh (G : Nat → DVal) (H : DHeap) (p : Ch → Ch → Bool) (l m : List Ch) (g : FuncId) (hl : l.length ≤ 1099511627776)
  (hp : ∀ x ∈ l, ∀ y ∈ m, ∀ H, DCalls Tryz.prog G g ([] ++ [.agg (dCh x), .agg (dCh y)] ++ []) H (DRet (.bool (p x y)) H)) :
  DCalls Tryz.prog G 83 [.vslice (l.flatMap dCh) l.length, .vslice (m.flatMap dCh) m.length, .func (.func g) [] []] H (DRet (.bool (eqF p l m)) H) := by
 refine dcalls_intro Tryz.func83 Tryz.call83 rfl (by kernel_rfl) ?_
 by_cases hlen : l.length = m.length
 ·have hlen' : (l.length : Int) = (m.length : Int) := by omega
  simp (disch := omega) only [go_sem, hlen']
  obtain ⟨I, hI⟩ : ∃ I : Nat → (Nat → DVal) → DHeap → Prop, ∀ k env heap, I k env heap ↔ (env 0 = .vslice (l.flatMap dCh) l.length ∧ env 1 = .vslice (m.flatMap dCh) m.length ∧ env 2 = .func (.func g) [] [] ∧ env 15 = .vslice (l.flatMap dCh) l.length ∧ env 16 = dI m.length ∧ env 17 = dI k ∧ k ≤ l.length ∧ eqF p l m = eqF p (l.drop k) (m.drop k) ∧ Sub H heap) := ⟨_, fun _ _ _ => Iff.rfl⟩
  refine DLoop.run I (fun k => l.length - k) 0 ((hI _ _ _).2 ?_) ?_
  ·simp (disch := omega) only [go_sem]
   (repeat' apply And.intro) <;> (try first | rfl | assumption | omega)
   exact Sub.refl _
  ·intro k env heap hi
   obtain ⟨e0, e1, e2, e15, e16, e17, hk, hsm, hsub⟩ := (hI _ _ _).1 hi
   have hfl := flat_len dCh_len l
   have hfm := flat_len dCh_len m
   by_cases hlt : k < l.length
   ·have hlt' : (k : Int) < (m.length : Int) := by omega
    have hlt2 : (k : Int) < (l.length : Int) := by omega
    have hkm : k < m.length := by omega
    have hget := flat_el dCh_len l k hlt
    have hgetm := flat_el dCh_len m k hkm
    have hwd : IntKind.i64.wrap ((k : Int) + 1) = ((k + 1 : Nat) : Int) := by rw [IntKind.wrap_i64]; omega
    simp (disch := omega) only [go_sem, e0, e1, e2, e15, e16, e17, hlt', hlt2, hget, hgetm, hfl, hfm, Int.toNat_natCast]
    intro r8 hr8; dsimp only at hr8
    simp (disch := omega) only [go_sem, e0, e1, e2, e15, e16, e17, hlt', hlt2, hget, hgetm, hfl, hfm, Int.toNat_natCast]
    intro r9 hr9; dsimp only at hr9
    obtain ⟨m2, m1, hr9'⟩ := upd_eq_none.1 hr9
    simp (disch := omega) only [go_sem, e0, e1, e2, e15, e16, e17, m1, m2, hget, hgetm, hfl, hfm, Int.toNat_natCast]
    refine (hp l[k] (List.getElem_mem hlt) m[k] (List.getElem_mem hkm) _).mono ?_
    rintro _ H1 ⟨rfl, rfl⟩
    rw [eqF_step hlt hkm] at hsm
    have hs1 := (hsub.new hr8 (some (DObj.cells (dCh l[k]) 71))).new hr9 (some (DObj.cells (dCh m[k]) 71))
    cases hb : p l[k] m[k] with
    | true =>
     rw [hb, Bool.true_and] at hsm
     simp (disch := omega) only [go_sem, e0, e1, e2, e15, e16, e17]
     refine ⟨k + 1, _, GhostS.refl _, (hI _ _ _).2 ?_, by omega⟩
     simp (disch := omega) only [go_sem, e0, e1, e2, e15, e16, e17, hwd]
     (repeat' apply And.intro) <;> (try first | rfl | assumption | omega)
    | false =>
     rw [hb, Bool.false_and] at hsm
     simp (disch := omega) only [go_sem, e0, e1, e2, e15, e16, e17]
     exact DFin.sub hs1 (DFin.refl ⟨by rw [hsm], rfl⟩)
   ·have : k = l.length := by omega
    subst this
    have hlt' : ¬ (l.length : Int) < (m.length : Int) := by omega
    simp (disch := omega) only [go_sem, e0, e1, e2, e15, e16, e17, hlt']
    refine DFin.sub hsub (DFin.refl ⟨?_, rfl⟩)
    rw [hsm, List.drop_length, hlen, List.drop_length]; rfl
 ·have hlen' : ¬ (l.length : Int) = (m.length : Int) := by omega
  simp (disch := omega) only [go_sem, hlen']
  exact DFin.refl ⟨by rw [eqF_ne hlen], rfl⟩
def SameOk (P : Program) (G : Nat → DVal) (f : FuncId) (x : Ex) : Prop := ∀ y H, DCalls P G f ([] ++ [.agg (dEx x), .agg (dEx y)] ++ []) H (DRet (.bool (sameE x y)) H)
theorem sameCh1_of (G : Nat → DVal) (H : DHeap) (x y : Ch) (hl : x.l.length ≤ 1099511627776) (hS : ∀ e ∈ x.l, SameOk Tryz.prog G 18 e) : DCalls Tryz.prog G 84 ([] ++ [.agg (dCh x), .agg (dCh y)] ++ []) H (DRet (.bool (sameC x y)) H) := by
 rw [sameC_eq, sameLE_eqF]
 refine dcalls_intro Tryz.func84 Tryz.call84 rfl (by kernel_rfl) ?_
 simp (disch := omega) only [go_sem, DVal.cells, List.nil_append, List.append_nil]
 intro r2 hr2; dsimp only at hr2
 simp (disch := omega) only [go_sem, DVal.cells]
 intro r3 hr3; dsimp only at hr3
 obtain ⟨m2, m1, hr3'⟩ := upd_eq_none.1 hr3
 by_cases h1 : x.kind = y.kind
 ·simp (disch := omega) only [go_sem, m1, m2, h1]
  refine (equalEx G _ sameE x.l y.l 18 hl fun e he f _ K => hS e he f K).mono ?_
  rintro _ H1 ⟨rfl, rfl⟩
  simp (disch := omega) only [go_sem]
  exact DFin.sub (show Sub H _ from (by repeat (first | exact Sub.refl _ | assumption | refine Sub.up ?_ (by assumption) _))) (DFin.refl ⟨by simp, rfl⟩)
 ·simp (disch := omega) only [go_sem, m1, m2, h1]
  exact DFin.sub (show Sub H _ from (by repeat (first | exact Sub.refl _ | assumption | refine Sub.up ?_ (by assumption) _))) (DFin.refl ⟨by simp, rfl⟩)
theorem sameCs_of (G : Nat → DVal) (H : DHeap) (l m : List Ch) (hl : bigCs l ≤ 1099511627776) (hS : ∀ e ∈ l.flatMap Ch.l, SameOk Tryz.prog G 18 e) : DCalls Tryz.prog G 30 [dCl l, dCl m] H (DRet (.bool (sameCs l m)) H) := by
 have hll := bigCs_len l
 refine dcalls_intro Tryz.func30 Tryz.call30 rfl (by kernel_rfl) ?_
 simp (disch := omega) only [go_sem, dCl]
 refine (equalCh G _ sameC l m 84 (by omega) fun c hc d _ K => sameCh1_of G K c d (by have := bigCs_mem hc; have := bigL_len c.l; rw [bigC_eq] at *; omega) fun e he => hS e (List.mem_flatMap.2 ⟨c, hc, he⟩)).mono ?_
 rintro _ H1 ⟨rfl, rfl⟩
 simp (disch := omega) only [go_sem]
 exact DFin.refl ⟨by rw [sameCs_eqF], rfl⟩
theorem sameAs1_of (G : Nat → DVal) (H : DHeap) (x y : As) (hl : bigA x ≤ 1099511627776) (hS : ∀ e ∈ partsA x, SameOk Tryz.prog G 18 e) : DCalls Tryz.prog G 82 ([] ++ [.agg (dAs x), .agg (dAs y)] ++ []) H (DRet (.bool (sameA x y)) H) := by
 have hb := bigA_eq x
 have dx := dAs_1 x
 have dy := dAs_1 y
 rw [sameA_eq]
 refine dcalls_intro Tryz.func82 Tryz.call82 rfl (by kernel_rfl) ?_
 simp (disch := omega) only [go_sem, DVal.cells, List.nil_append, List.append_nil]
 intro r2 hr2; dsimp only at hr2
 simp (disch := omega) only [go_sem, DVal.cells]
 intro r3 hr3; dsimp only at hr3
 obtain ⟨m2, m1, hr3'⟩ := upd_eq_none.1 hr3
 simp (disch := omega) only [go_sem, m1, m2]
 refine (sameCs_of G _ x.c y.c (by omega) fun e he => hS e (List.mem_append_left _ he)).mono ?_
 rintro _ H1 ⟨rfl, rfl⟩
 cases h : sameCs x.c y.c with
 | false =>
  simp (disch := omega) only [go_sem, m1, m2]
  exact DFin.sub (show Sub H _ from (by repeat (first | exact Sub.refl _ | assumption | refine Sub.up ?_ (by assumption) _))) (DFin.refl ⟨by simp, rfl⟩)
 | true =>
  simp (disch := omega) only [go_sem, m1, m2, dx, dy]
  refine (hS x.e (mem_partsA_e x) y.e _).mono ?_
  rintro _ H1 ⟨rfl, rfl⟩
  simp (disch := omega) only [go_sem]
  exact DFin.sub (show Sub H _ from (by repeat (first | exact Sub.refl _ | assumption | refine Sub.up ?_ (by assumption) _))) (DFin.refl ⟨by simp, rfl⟩)
theorem sameArgs_of (G : Nat → DVal) (H : DHeap) (l m : List As) (hl : bigAs l ≤ 1099511627776) (hS : ∀ e ∈ l.flatMap partsA, SameOk Tryz.prog G 18 e) : DCalls Tryz.prog G 28 [dAl l, dAl m] H (DRet (.bool (sameAs l m)) H) := by
 have hll := bigAs_len l
 refine dcalls_intro Tryz.func28 Tryz.call28 rfl (by kernel_rfl) ?_
 simp (disch := omega) only [go_sem, dAl]
 refine (equalAs G _ sameA l m 82 (by omega) fun a ha b _ K => sameAs1_of G K a b (by have := bigAs_mem ha; omega) fun e he => hS e (List.mem_flatMap.2 ⟨a, ha, he⟩)).mono ?_
 rintro _ H1 ⟨rfl, rfl⟩
 simp (disch := omega) only [go_sem]
 exact DFin.refl ⟨by rw [sameAs_eqF], rfl⟩
theorem same_ok (G : Nat → DVal) : ∀ x : Ex, bigE x ≤ 1099511627776 → SameOk Tryz.prog G 18 x := by
 intro x
 induction x using Ex.ind with
 | h x ih =>
  intro hb y H
  have hbe := bigE_eq x
  have hbl := bigL_len x.l
  have ih' : ∀ e ∈ parts x, SameOk Tryz.prog G 18 e := fun e he => ih e he (by have := bigE_parts he; omega)
  rw [sameE_eq, sameLE_eqF]
  refine dcalls_intro Tryz.func18 Tryz.call18 rfl (by kernel_rfl) ?_
  simp (disch := omega) only [go_sem, DVal.cells, List.nil_append, List.append_nil]
  intro r2 hr2; dsimp only at hr2
  simp (disch := omega) only [go_sem, DVal.cells]
  intro r3 hr3; dsimp only at hr3
  obtain ⟨m2, m1, hr3'⟩ := upd_eq_none.1 hr3
  by_cases h1 : x.kind = y.kind
  ·by_cases h2 : x.oper = y.oper
   ·by_cases h3 : x.n = y.n
    ·by_cases h4 : x.s = y.s
     ·simp (disch := omega) only [go_sem, m1, m2, h1, h2, h3, h4]
      refine (equalEx G _ sameE x.l y.l 18 (by omega) fun e he f _ K => ih' e (mem_parts_l he) f K).mono ?_
      rintro _ H1 ⟨rfl, rfl⟩
      cases h5 : eqF sameE x.l y.l with
      | true =>
       simp (disch := omega) only [go_sem, m1, m2]
       refine (sameArgs_of G _ x.a y.a (by omega) fun e he => ih' e (List.mem_append_right _ he)).mono ?_
       rintro _ H1 ⟨rfl, rfl⟩
       simp (disch := omega) only [go_sem]
       exact DFin.sub (show Sub H _ from (by repeat (first | exact Sub.refl _ | assumption | refine Sub.up ?_ (by assumption) _))) (DFin.refl ⟨by simp, rfl⟩)
      | false =>
       simp (disch := omega) only [go_sem, m1, m2]
       exact DFin.sub (show Sub H _ from (by repeat (first | exact Sub.refl _ | assumption | refine Sub.up ?_ (by assumption) _))) (DFin.refl ⟨by simp, rfl⟩)
     ·simp (disch := omega) only [go_sem, m1, m2, h1, h2, h3, h4]
      exact DFin.sub (show Sub H _ from (by repeat (first | exact Sub.refl _ | assumption | refine Sub.up ?_ (by assumption) _))) (DFin.refl ⟨by simp, rfl⟩)
    ·simp (disch := omega) only [go_sem, m1, m2, h1, h2, h3]
     exact DFin.sub (show Sub H _ from (by repeat (first | exact Sub.refl _ | assumption | refine Sub.up ?_ (by assumption) _))) (DFin.refl ⟨by simp, rfl⟩)
   ·simp (disch := omega) only [go_sem, m1, m2, h1, h2]
    exact DFin.sub (show Sub H _ from (by repeat (first | exact Sub.refl _ | assumption | refine Sub.up ?_ (by assumption) _))) (DFin.refl ⟨by simp, rfl⟩)
  ·simp (disch := omega) only [go_sem, m1, m2, h1]
   exact DFin.sub (show Sub H _ from (by repeat (first | exact Sub.refl _ | assumption | refine Sub.up ?_ (by assumption) _))) (DFin.refl ⟨by simp, rfl⟩)
theorem same_spec (G : Nat → DVal) (H : DHeap) (x y : Ex) (hx : bigE x ≤ 1099511627776) : DCalls Tryz.prog G 18 [.agg (dEx x), .agg (dEx y)] H (DRet (.bool (sameE x y)) H) := same_ok G x hx y H
theorem sameArgs_spec (G : Nat → DVal) (H : DHeap) (l m : List As) (hl : bigAs l ≤ 1099511627776) : DCalls Tryz.prog G 28 [dAl l, dAl m] H (DRet (.bool (sameAs l m)) H) :=
 sameArgs_of G H l m hl fun e he => same_ok G e (by
  obtain ⟨a, ha, he⟩ := List.mem_flatMap.1 he
  have := bigA_parts e he
  have := bigAs_mem ha
  omega)
theorem sameChoices_spec (G : Nat → DVal) (H : DHeap) (l m : List Ch) (hl : bigCs l ≤ 1099511627776) : DCalls Tryz.prog G 30 [dCl l, dCl m] H (DRet (.bool (sameCs l m)) H) :=
 sameCs_of G H l m hl fun e he => same_ok G e (by
  obtain ⟨a, ha, he⟩ := List.mem_flatMap.1 he
  have := bigL_mem he
  have := bigCs_mem ha
  rw [bigC_eq] at *
  omega)
def SizeR (x : Ex) (s : Int) (b : Bool) (s' : Int) : Prop := 0 ≤ s → s + sizeE x ≤ 4611686018427387904 → b = true ∧ s' = s + sizeE x
theorem run_size : ∀ (l : List Ex) (s : Int) (b : Bool) (s' : Int), RunR SizeR l s b s' → 0 ≤ s → s + sumE l ≤ 4611686018427387904 → b = true ∧ s' = s + sumE l
 | [], s, b, s', h, _, _ => by
  obtain ⟨rfl, rfl⟩ := h
  exact ⟨rfl, by simp [sumE]⟩
 | x :: l, s, b, s', h, h0, h1 => by
  obtain ⟨b1, s1, hx, h⟩ := h
  have hsum : sumE (x :: l) = sizeE x + sumE l := by simp [sumE]
  obtain ⟨rfl, rfl⟩ := hx h0 (by omega)
  rcases h with ⟨_, h⟩ | ⟨h, _⟩
  ·obtain ⟨k1, k2⟩ := run_size l _ b s' h (by omega) (by omega)
   exact ⟨k1, by rw [k2, hsum]; omega⟩
  ·cases h
theorem size_spec (G : Nat → DVal) : ∀ (e : Ex) (H : DHeap), bigE e ≤ 1099511627776 → DCalls Tryz.prog G 20 [.agg (dEx e)] H (DRet (dI (sizeE e)) H) := by
 intro e
 induction e using Ex.ind with
 | h e ih =>
  intro H hb
  have hsz := size_bigE e
  have hsum := sizeE_sum e
  refine dcalls_intro Tryz.func20 Tryz.call20 rfl (by kernel_rfl) ?_
  simp (disch := omega) only [go_sem, DVal.cells]
  intro r1 hr1; dsimp only at hr1
  simp (disch := omega) only [go_sem, DVal.cells]
  intro r3 hr3; dsimp only at hr3
  obtain ⟨m1, m2, hr3'⟩ := upd_eq_none.1 hr3
  simp (disch := omega) only [go_sem, m1, m2]
  have hs1 : Sub H (upd (upd H r1 (some (.cells (dEx e) 27))) r3 (some (intO 1))) := ((Sub.refl H).new hr1 _).new hr3 _
  refine (each_spec G _ e hb 72 [] [.optr r3 0] SizeR r3 1 (upd_same _ _ _) fun x hx s K hK hT => ?_).mono ?_
  ·have hbx := bigE_parts hx
   unfold intO at hK
   refine dcalls_intro Tryz.func72 Tryz.call72 rfl (by kernel_rfl) ?_
   simp (disch := omega) only [go_sem, DVal.cells, List.nil_append, List.cons_append]
   intro q hq; dsimp only at hq
   have n1 : r3 ≠ q := none_ne hq hK
   have n2 : q ≠ r3 := n1.symm
   simp (disch := omega) only [go_sem, n1, n2, hK]
   refine dwp_draws (by kernel_rfl) (.take 0 (.take 1 (.go 2 [0] (.take 3 (.go 4 [] .done))))) (by kernel_rfl) ?_
   simp (disch := omega) only [go_sem, n1, n2, hK]
   refine (ih x hx _ (by omega)).mono ?_
   rintro _ H2 ⟨rfl, rfl⟩
   simp (disch := omega) only [go_sem, n1, n2, hK]
   refine DFin.refl ⟨true, _, rfl, fun h0 h1 => ⟨rfl, ?_⟩, upd_same _ _ _, ((Turn.refl r3 _).new hq _).set _⟩
   rw [IntKind.wrap_i64]; omega
  ·rintro _ H7 ⟨b, t, rfl, hR, ht, hT⟩
   unfold intO at ht
   obtain ⟨_, w2⟩ := run_size _ _ _ _ hR (by decide) (by omega)
   simp (disch := omega) only [go_sem, ht]
   refine DFin.sub (hT.sub hs1 hr3') (DFin.refl ⟨?_, rfl⟩)
   have e1 : t = (sizeE e : Int) := by rw [w2, hsum]; omega
   rw [e1]
end Go.Dl

-- Chapter 3: the reference's Same, SameArgs, SameChoices; Level (printed by gen_ub.py).
namespace Go.Dl
open Go Go.Proofs
set_option maxRecDepth 100000
theorem not_eqF {α : Type} {p : α → α → Bool} {l m : List α} {k : Nat} (h1 : k < l.length) (h2 : k < m.length) {b : Bool} (hb : p l[k] m[k] = b) (h : eqF p l m = eqF p (l.drop k) (m.drop k)) : eqF p l m = (b && eqF p (l.drop (k + 1)) (m.drop (k + 1))) := by
 rw [h, eqF_step h1 h2, hb]
section
variable {G : Nat → DVal} {H : DHeap}
def SameOkR (P : Program) (G : Nat → DVal) (f : FuncId) (x : Ex) : Prop := ∀ y H, DCalls P G f [.agg (dEx x), .agg (dEx y)] H (DRet (.bool (sameE x y)) H)
theorem rsameAll_of (G : Nat → DVal) (H : DHeap) (l m : List Ex) (hl : l.length ≤ 1099511627776) (hS : ∀ e ∈ l, SameOkR Tryz.prog G 23 e) : DCalls Tryz.prog G 74 [.vslice (l.flatMap dEx) l.length, .vslice (m.flatMap dEx) m.length] H (DRet (.bool (eqF sameE l m)) H) := by
 refine dcalls_intro Tryz.func74 Tryz.call74 rfl (by kernel_rfl) ?_
 by_cases hlen : l.length = m.length
 ·have hlen' : (l.length : Int) = (m.length : Int) := by omega
  simp (disch := omega) only [go_sem, hlen']
  obtain ⟨I, hI⟩ : ∃ I : Nat → (Nat → DVal) → DHeap → Prop, ∀ k env heap, I k env heap ↔ (env 0 = .vslice (l.flatMap dEx) l.length ∧ env 1 = .vslice (m.flatMap dEx) m.length ∧ env 5 = dI k ∧ k ≤ l.length ∧ eqF sameE l m = eqF sameE (l.drop k) (m.drop k) ∧ heap = H) := ⟨_, fun _ _ _ => Iff.rfl⟩
  refine DLoop.run I (fun k => l.length - k) 0 ((hI _ _ _).2 ?_) ?_
  ·simp (disch := omega) only [go_sem]
   (repeat' apply And.intro) <;> (try first | rfl | assumption | omega)
  ·intro k env heap hi
   obtain ⟨e0, e1, e5, hk, hsm, rfl⟩ := (hI _ _ _).1 hi
   have hfl := flat_len dEx_len l
   have hfm := flat_len dEx_len m
   by_cases hlt : k < l.length
   ·have hlt' : (k : Int) < (m.length : Int) := by omega
    have hlt2 : (k : Int) < (l.length : Int) := by omega
    have hkm : k < m.length := by omega
    have hget := flat_el dEx_len l k hlt
    have hgetm := flat_el dEx_len m k hkm
    have hwd : IntKind.i64.wrap ((k : Int) + 1) = ((k + 1 : Nat) : Int) := by rw [IntKind.wrap_i64]; omega
    have hml := List.getElem_mem hlt
    simp (disch := omega) only [go_sem, e0, e1, e5, hlt', hlt2, hget, hgetm, hfl, hfm, Int.toNat_natCast]
    refine dwp_draws (by kernel_rfl) (.take 0 (.take 1 (.take 2 (.take 3 (.take 4 (.take 5 (.take 6 (.take 7 (.go 8 [] (.take 9 .done)))))))))) (by kernel_rfl) ?_
    simp (disch := omega) only [go_sem, e0, e1, e5, hlt', hlt2, hget, hgetm, hfl, hfm, Int.toNat_natCast]
    refine (hS l[k] hml m[k] _).mono ?_
    rintro _ H1 ⟨rfl, rfl⟩
    cases hb : sameE l[k] m[k] with
    | true =>
     simp (disch := omega) only [go_sem, e0, e1, e5]
     refine ⟨k + 1, _, GhostS.refl _, (hI _ _ _).2 ?_, by omega⟩
     simp (disch := omega) only [go_sem, e0, e1, e5, hwd]
     (repeat' apply And.intro) <;> (try first | rfl | assumption | omega)
     all_goals rw [not_eqF hlt hkm hb hsm, Bool.true_and]
    | false =>
     simp (disch := omega) only [go_sem, e0, e1, e5]
     exact DFin.refl ⟨by rw [not_eqF hlt hkm hb hsm, Bool.false_and], rfl⟩
   ·have : k = l.length := by omega
    subst this
    have hlt' : ¬ (l.length : Int) < (m.length : Int) := by omega
    simp (disch := omega) only [go_sem, e0, e1, e5, hlt']
    refine DFin.refl ⟨?_, rfl⟩
    rw [hsm, List.drop_length, hlen, List.drop_length]; rfl
 ·have hlen' : ¬ (l.length : Int) = (m.length : Int) := by omega
  simp (disch := omega) only [go_sem, hlen']
  exact DFin.refl ⟨by rw [eqF_ne hlen], rfl⟩
theorem rsameCs_of (G : Nat → DVal) (H : DHeap) (l m : List Ch) (hl : bigCs l ≤ 1099511627776) (hS : ∀ e ∈ l.flatMap Ch.l, SameOkR Tryz.prog G 23 e) : DCalls Tryz.prog G 31 [.vslice (l.flatMap dCh) l.length, .vslice (m.flatMap dCh) m.length] H (DRet (.bool (eqF sameC l m)) H) := by
 have hll := bigCs_len l
 refine dcalls_intro Tryz.func31 Tryz.call31 rfl (by kernel_rfl) ?_
 by_cases hlen : l.length = m.length
 ·have hlen' : (l.length : Int) = (m.length : Int) := by omega
  simp (disch := omega) only [go_sem, hlen']
  obtain ⟨I, hI⟩ : ∃ I : Nat → (Nat → DVal) → DHeap → Prop, ∀ k env heap, I k env heap ↔ (env 0 = .vslice (l.flatMap dCh) l.length ∧ env 1 = .vslice (m.flatMap dCh) m.length ∧ env 5 = dI k ∧ k ≤ l.length ∧ eqF sameC l m = eqF sameC (l.drop k) (m.drop k) ∧ heap = H) := ⟨_, fun _ _ _ => Iff.rfl⟩
  refine DLoop.run I (fun k => l.length - k) 0 ((hI _ _ _).2 ?_) ?_
  ·simp (disch := omega) only [go_sem]
   (repeat' apply And.intro) <;> (try first | rfl | assumption | omega)
  ·intro k env heap hi
   obtain ⟨e0, e1, e5, hk, hsm, rfl⟩ := (hI _ _ _).1 hi
   have hfl := flat_len dCh_len l
   have hfm := flat_len dCh_len m
   by_cases hlt : k < l.length
   ·have hlt' : (k : Int) < (m.length : Int) := by omega
    have hlt2 : (k : Int) < (l.length : Int) := by omega
    have hkm : k < m.length := by omega
    have hget := flat_el dCh_len l k hlt
    have hgetm := flat_el dCh_len m k hkm
    have hwd : IntKind.i64.wrap ((k : Int) + 1) = ((k + 1 : Nat) : Int) := by rw [IntKind.wrap_i64]; omega
    have hml := List.getElem_mem hlt
    have gk := flat_get dCh_len l k hlt 0 (by decide)
    have gl := flat_get dCh_len l k hlt 1 (by decide)
    have mk := flat_get dCh_len m k hkm 0 (by decide)
    have ml := flat_get dCh_len m k hkm 1 (by decide)
    rw [dCh_0, Nat.add_zero] at gk mk
    rw [dCh_1] at gl ml
    have hbl := bigL_len l[k].l
    have hbc := bigCs_mem hml
    rw [bigC_eq] at hbc
    have hpe := sameC_eq l[k] m[k]
    rw [sameLE_eqF] at hpe
    simp (disch := omega) only [go_sem, e0, e1, e5, hlt', hlt2, hfl, hfm, Int.toNat_natCast]
    refine dwp_draws (by kernel_rfl) (.take 0 (.take 1 (.take 2 (.take 3 (.take 4 (.take 5 (.take 6 (.take 7 (.take 8 (.take 9 (.take 10 (.take 11 (.take 12 (.take 13 (.take 14 (.take 15 (.take 16 (.take 17 (.take 18 (.take 19 (.take 20 (.take 21 (.go 22 [] (.take 23 (.take 24 .done))))))))))))))))))))))))) (by kernel_rfl) ?_
    by_cases hkk : l[k].kind = m[k].kind
    ·simp (disch := omega) only [go_sem, e0, e1, e5, hlt', hlt2, gk, mk, gl, ml, hkk, hfl, hfm, Int.toNat_natCast]
     refine (rsameAll_of G _ l[k].l m[k].l (by omega) fun e he => hS e (List.mem_flatMap.2 ⟨l[k], hml, he⟩)).mono ?_
     rintro _ H1 ⟨rfl, rfl⟩
     rw [decide_eq_true hkk, Bool.true_and] at hpe
     rw [← hpe]
     cases hb : sameC l[k] m[k] with
     | true =>
      simp (disch := omega) only [go_sem, e0, e1, e5]
      refine ⟨k + 1, _, GhostS.refl _, (hI _ _ _).2 ?_, by omega⟩
      simp (disch := omega) only [go_sem, e0, e1, e5, hwd]
      (repeat' apply And.intro) <;> (try first | rfl | assumption | omega)
      all_goals rw [not_eqF hlt hkm hb hsm, Bool.true_and]
     | false =>
      simp (disch := omega) only [go_sem, e0, e1, e5]
      exact DFin.refl ⟨by rw [not_eqF hlt hkm hb hsm, Bool.false_and], rfl⟩
    ·have hb : sameC l[k] m[k] = false := by rw [hpe, decide_eq_false hkk, Bool.false_and]
     simp (disch := omega) only [go_sem, e0, e1, e5, hlt', hlt2, gk, mk, gl, ml, hkk, hfl, hfm, Int.toNat_natCast]
     exact DFin.refl ⟨by rw [not_eqF hlt hkm hb hsm, Bool.false_and], rfl⟩
   ·have : k = l.length := by omega
    subst this
    have hlt' : ¬ (l.length : Int) < (m.length : Int) := by omega
    simp (disch := omega) only [go_sem, e0, e1, e5, hlt']
    refine DFin.refl ⟨?_, rfl⟩
    rw [hsm, List.drop_length, hlen, List.drop_length]; rfl
 ·have hlen' : ¬ (l.length : Int) = (m.length : Int) := by omega
  simp (disch := omega) only [go_sem, hlen']
  exact DFin.refl ⟨by rw [eqF_ne hlen], rfl⟩
theorem rsameArgs_of (G : Nat → DVal) (H : DHeap) (l m : List As) (hl : bigAs l ≤ 1099511627776) (hS : ∀ e ∈ l.flatMap partsA, SameOkR Tryz.prog G 23 e) : DCalls Tryz.prog G 29 [.vslice (l.flatMap dAs) l.length, .vslice (m.flatMap dAs) m.length] H (DRet (.bool (eqF sameA l m)) H) := by
 have hll := bigAs_len l
 refine dcalls_intro Tryz.func29 Tryz.call29 rfl (by kernel_rfl) ?_
 by_cases hlen : l.length = m.length
 ·have hlen' : (l.length : Int) = (m.length : Int) := by omega
  simp (disch := omega) only [go_sem, hlen']
  obtain ⟨I, hI⟩ : ∃ I : Nat → (Nat → DVal) → DHeap → Prop, ∀ k env heap, I k env heap ↔ (env 0 = .vslice (l.flatMap dAs) l.length ∧ env 1 = .vslice (m.flatMap dAs) m.length ∧ env 5 = dI k ∧ k ≤ l.length ∧ eqF sameA l m = eqF sameA (l.drop k) (m.drop k) ∧ heap = H) := ⟨_, fun _ _ _ => Iff.rfl⟩
  refine DLoop.run I (fun k => l.length - k) 0 ((hI _ _ _).2 ?_) ?_
  ·simp (disch := omega) only [go_sem]
   (repeat' apply And.intro) <;> (try first | rfl | assumption | omega)
  ·intro k env heap hi
   obtain ⟨e0, e1, e5, hk, hsm, rfl⟩ := (hI _ _ _).1 hi
   have hfl := flat_len dAs_len l
   have hfm := flat_len dAs_len m
   by_cases hlt : k < l.length
   ·have hlt' : (k : Int) < (m.length : Int) := by omega
    have hlt2 : (k : Int) < (l.length : Int) := by omega
    have hkm : k < m.length := by omega
    have hget := flat_el dAs_len l k hlt
    have hgetm := flat_el dAs_len m k hkm
    have hwd : IntKind.i64.wrap ((k : Int) + 1) = ((k + 1 : Nat) : Int) := by rw [IntKind.wrap_i64]; omega
    have hml := List.getElem_mem hlt
    have gk := flat_get dAs_len l k hlt 0 (by decide)
    have mk := flat_get dAs_len m k hkm 0 (by decide)
    rw [dAs_0, Nat.add_zero] at gk mk
    have gl : ((l.flatMap dAs).drop (k * 10 + 1)).take 9 = dEx l[k].e := by
     rw [← dAs_1, ← hget, List.drop_take, List.take_take, List.drop_drop]; rfl
    have ml : ((m.flatMap dAs).drop (k * 10 + 1)).take 9 = dEx m[k].e := by
     rw [← dAs_1, ← hgetm, List.drop_take, List.take_take, List.drop_drop]; rfl
    have hba := bigAs_mem hml
    rw [bigA_eq] at hba
    have hpe := sameA_eq l[k] m[k]
    rw [sameCs_eqF] at hpe
    simp (disch := omega) only [go_sem, e0, e1, e5, hlt', hlt2, hfl, hfm, Int.toNat_natCast]
    refine dwp_draws (by kernel_rfl) (.take 0 (.take 1 (.take 2 (.take 3 (.take 4 (.take 5 (.take 6 (.take 7 (.take 8 (.take 9 (.go 10 [] (.take 11 (.take 12 (.take 13 (.take 14 (.take 15 (.take 16 (.take 17 (.take 18 (.take 19 (.take 20 (.take 21 (.take 22 (.go 23 [] (.take 24 (.take 25 .done)))))))))))))))))))))))))) (by kernel_rfl) ?_
    simp (disch := omega) only [go_sem, e0, e1, e5, hlt', hlt2, gk, mk, gl, ml, hfl, hfm, Int.toNat_natCast]
    refine (rsameCs_of G _ l[k].c m[k].c (by omega) fun e he => hS e (List.mem_flatMap.2 ⟨l[k], hml, List.mem_append_left _ he⟩)).mono ?_
    rintro _ H1 ⟨rfl, rfl⟩
    cases hc : eqF sameC l[k].c m[k].c with
    | true =>
     rw [hc, Bool.true_and] at hpe
     simp (disch := omega) only [go_sem, e0, e1, e5, hlt', hlt2, gk, mk, gl, ml, hfl, hfm, Int.toNat_natCast]
     refine (hS l[k].e (List.mem_flatMap.2 ⟨l[k], hml, mem_partsA_e _⟩) m[k].e _).mono ?_
     rintro _ H1 ⟨rfl, rfl⟩
     rw [← hpe]
     cases hb : sameA l[k] m[k] with
     | true =>
      simp (disch := omega) only [go_sem, e0, e1, e5]
      refine ⟨k + 1, _, GhostS.refl _, (hI _ _ _).2 ?_, by omega⟩
      simp (disch := omega) only [go_sem, e0, e1, e5, hwd]
      (repeat' apply And.intro) <;> (try first | rfl | assumption | omega)
      all_goals rw [not_eqF hlt hkm hb hsm, Bool.true_and]
     | false =>
      simp (disch := omega) only [go_sem, e0, e1, e5]
      exact DFin.refl ⟨by rw [not_eqF hlt hkm hb hsm, Bool.false_and], rfl⟩
    | false =>
     have hb : sameA l[k] m[k] = false := by rw [hpe, hc, Bool.false_and]
     simp (disch := omega) only [go_sem, e0, e1, e5, hlt', hlt2, gk, mk, gl, ml, hfl, hfm, Int.toNat_natCast]
     exact DFin.refl ⟨by rw [not_eqF hlt hkm hb hsm, Bool.false_and], rfl⟩
   ·have : k = l.length := by omega
    subst this
    have hlt' : ¬ (l.length : Int) < (m.length : Int) := by omega
    simp (disch := omega) only [go_sem, e0, e1, e5, hlt']
    refine DFin.refl ⟨?_, rfl⟩
    rw [hsm, List.drop_length, hlen, List.drop_length]; rfl
 ·have hlen' : ¬ (l.length : Int) = (m.length : Int) := by omega
  simp (disch := omega) only [go_sem, hlen']
  exact DFin.refl ⟨by rw [eqF_ne hlen], rfl⟩
theorem rsame_ok (G : Nat → DVal) : ∀ x : Ex, bigE x ≤ 1099511627776 → SameOkR Tryz.prog G 23 x := by
 intro x
 induction x using Ex.ind with
 | h x ih =>
  intro hb y H
  have hbe := bigE_eq x
  have hbl := bigL_len x.l
  have ih' : ∀ e ∈ parts x, SameOkR Tryz.prog G 23 e := fun e he => ih e he (by have := bigE_parts he; omega)
  rw [sameE_eq, sameLE_eqF, sameAs_eqF]
  refine dcalls_intro Tryz.func23 Tryz.call23 rfl (by kernel_rfl) ?_
  simp (disch := omega) only [go_sem, DVal.cells]
  intro r2 hr2; dsimp only at hr2
  simp (disch := omega) only [go_sem, DVal.cells]
  intro r3 hr3; dsimp only at hr3
  obtain ⟨m2, m1, hr3'⟩ := upd_eq_none.1 hr3
  by_cases h1 : x.kind = y.kind
  ·by_cases h2 : x.oper = y.oper
   ·by_cases h3 : x.n = y.n
    ·by_cases h4 : x.s = y.s
     ·simp (disch := omega) only [go_sem, m1, m2, h1, h2, h3, h4]
      refine (rsameAll_of G _ x.l y.l (by omega) fun e he => ih' e (mem_parts_l he)).mono ?_
      rintro _ H1 ⟨rfl, rfl⟩
      cases h5 : eqF sameE x.l y.l with
      | true =>
       simp (disch := omega) only [go_sem, m1, m2]
       refine (rsameArgs_of G _ x.a y.a (by omega) fun e he => ih' e (List.mem_append_right _ he)).mono ?_
       rintro _ H1 ⟨rfl, rfl⟩
       simp (disch := omega) only [go_sem]
       exact DFin.sub (show Sub H _ from (by repeat (first | exact Sub.refl _ | assumption | refine Sub.up ?_ (by assumption) _))) (DFin.refl ⟨by simp, rfl⟩)
      | false =>
       simp (disch := omega) only [go_sem, m1, m2]
       exact DFin.sub (show Sub H _ from (by repeat (first | exact Sub.refl _ | assumption | refine Sub.up ?_ (by assumption) _))) (DFin.refl ⟨by simp, rfl⟩)
     ·simp (disch := omega) only [go_sem, m1, m2, h1, h2, h3, h4]
      exact DFin.sub (show Sub H _ from (by repeat (first | exact Sub.refl _ | assumption | refine Sub.up ?_ (by assumption) _))) (DFin.refl ⟨by simp, rfl⟩)
    ·simp (disch := omega) only [go_sem, m1, m2, h1, h2, h3]
     exact DFin.sub (show Sub H _ from (by repeat (first | exact Sub.refl _ | assumption | refine Sub.up ?_ (by assumption) _))) (DFin.refl ⟨by simp, rfl⟩)
   ·simp (disch := omega) only [go_sem, m1, m2, h1, h2]
    exact DFin.sub (show Sub H _ from (by repeat (first | exact Sub.refl _ | assumption | refine Sub.up ?_ (by assumption) _))) (DFin.refl ⟨by simp, rfl⟩)
  ·simp (disch := omega) only [go_sem, m1, m2, h1]
   exact DFin.sub (show Sub H _ from (by repeat (first | exact Sub.refl _ | assumption | refine Sub.up ?_ (by assumption) _))) (DFin.refl ⟨by simp, rfl⟩)
theorem xsame_spec (G : Nat → DVal) (H : DHeap) (x y : Ex) (hx : bigE x ≤ 1099511627776) : DCalls Tryz.prog G 23 [.agg (dEx x), .agg (dEx y)] H (DRet (.bool (sameE x y)) H) := rsame_ok G x hx y H
theorem rsameArgs_spec (G : Nat → DVal) (H : DHeap) (l m : List As) (hl : bigAs l ≤ 1099511627776) : DCalls Tryz.prog G 29 [dAl l, dAl m] H (DRet (.bool (sameAs l m)) H) := by
 rw [sameAs_eqF]
 exact rsameArgs_of G H l m hl fun e he => rsame_ok G e (by
  obtain ⟨a, ha, he⟩ := List.mem_flatMap.1 he
  have := bigA_parts e he
  have := bigAs_mem ha
  omega)
theorem rsameChoices_spec (G : Nat → DVal) (H : DHeap) (l m : List Ch) (hl : bigCs l ≤ 1099511627776) : DCalls Tryz.prog G 31 [dCl l, dCl m] H (DRet (.bool (sameCs l m)) H) := by
 rw [sameCs_eqF]
 exact rsameCs_of G H l m hl fun e he => rsame_ok G e (by
  obtain ⟨a, ha, he⟩ := List.mem_flatMap.1 he
  have := bigL_mem he
  have := bigCs_mem ha
  rw [bigC_eq] at *
  omega)
theorem level_spec (G : Nat → DVal) (H : DHeap) (e : Ex) : DCalls Tryz.prog G 15 [.agg (dEx e)] H (DRet (dI (levelE e)) H) := by
 refine dcalls_intro Tryz.func15 Tryz.call15 rfl (by kernel_rfl) ?_
 simp (disch := omega) only [go_sem, DVal.cells]
 intro r hr; dsimp only at hr
 by_cases k13 : e.kind = 13
 ·skip
  simp (disch := omega) only [go_sem, k13]
  exact DFin.dropA r hr (DFin.refl ⟨by simp [levelE, k13], rfl⟩)
 by_cases k14 : e.kind = 14
 ·skip
  simp (disch := omega) only [go_sem, k13, k14]
  exact DFin.dropA r hr (DFin.refl ⟨by simp [levelE, k13, k14], rfl⟩)
 by_cases k11 : e.kind = 11
 ·by_cases o18 : e.oper = 18
  ·skip
   simp (disch := omega) only [go_sem, k11, o18]
   exact DFin.dropA r hr (DFin.refl ⟨by simp [levelE, k11, o18], rfl⟩)
  by_cases o19 : e.oper = 19
  ·skip
   simp (disch := omega) only [go_sem, k11, o18, o19]
   exact DFin.dropA r hr (DFin.refl ⟨by simp [levelE, k11, o18, o19], rfl⟩)
  by_cases o20 : e.oper = 20
  ·skip
   simp (disch := omega) only [go_sem, k11, o18, o19, o20]
   exact DFin.dropA r hr (DFin.refl ⟨by simp [levelE, k11, o18, o19, o20], rfl⟩)
  by_cases o21 : e.oper = 21
  ·skip
   simp (disch := omega) only [go_sem, k11, o18, o19, o20, o21]
   exact DFin.dropA r hr (DFin.refl ⟨by simp [levelE, k11, o18, o19, o20, o21], rfl⟩)
  simp (disch := omega) only [go_sem, k11, o18, o19, o20, o21]
  exact DFin.dropA r hr (DFin.refl ⟨by simp [levelE, k11, o18, o19, o20, o21], rfl⟩)
 by_cases k12 : e.kind = 12
 ·by_cases a1 : 13 ≤ e.oper
  ·by_cases a2 : e.oper ≤ 17
   ·skip
    simp (disch := omega) only [go_sem, k12, k11, a1, a2]
    refine DFin.dropA r hr (DFin.refl ⟨?_, rfl⟩)
    congr 2
    rw [levelE, if_neg (by omega), if_neg (by omega), if_pos (by omega)]
    (repeat (first | rfl | rw [if_pos (by omega)] | rw [if_neg (by omega)]))
   ·have b1 : 7 ≤ e.oper := by omega
    have b2 : ¬ e.oper ≤ 12 := by omega
    have c1 : 3 ≤ e.oper := by omega
    have c2 : ¬ e.oper ≤ 6 := by omega
    have x1 : ¬ e.oper = 1 := by omega
    have x2 : ¬ e.oper = 2 := by omega
    simp (disch := omega) only [go_sem, k12, k11, a1, a2, b1, b2, x1, x2, c1, c2]
    refine DFin.dropA r hr (DFin.refl ⟨?_, rfl⟩)
    congr 2
    rw [levelE, if_neg (by omega), if_neg (by omega), if_pos (by omega)]
    (repeat (first | rfl | rw [if_pos (by omega)] | rw [if_neg (by omega)]))
  ·by_cases b1 : 7 ≤ e.oper
   ·have b2 : e.oper ≤ 12 := by omega
    simp (disch := omega) only [go_sem, k12, k11, a1, b1, b2]
    refine DFin.dropA r hr (DFin.refl ⟨?_, rfl⟩)
    congr 2
    rw [levelE, if_neg (by omega), if_neg (by omega), if_pos (by omega)]
    (repeat (first | rfl | rw [if_pos (by omega)] | rw [if_neg (by omega)]))
   ·by_cases x1 : e.oper = 1
    ·skip
     simp (disch := omega) only [go_sem, k12, k11, x1]
     refine DFin.dropA r hr (DFin.refl ⟨?_, rfl⟩)
     congr 2
     rw [levelE, if_neg (by omega), if_neg (by omega), if_pos (by omega)]
     (repeat (first | rfl | rw [if_pos (by omega)] | rw [if_neg (by omega)]))
    by_cases x2 : e.oper = 2
    ·skip
     simp (disch := omega) only [go_sem, k12, k11, x2]
     refine DFin.dropA r hr (DFin.refl ⟨?_, rfl⟩)
     congr 2
     rw [levelE, if_neg (by omega), if_neg (by omega), if_pos (by omega)]
     (repeat (first | rfl | rw [if_pos (by omega)] | rw [if_neg (by omega)]))
    by_cases c1 : 3 ≤ e.oper
    ·have c2 : e.oper ≤ 6 := by omega
     simp (disch := omega) only [go_sem, k12, k11, a1, b1, x1, x2, c1, c2]
     refine DFin.dropA r hr (DFin.refl ⟨?_, rfl⟩)
     congr 2
     rw [levelE, if_neg (by omega), if_neg (by omega), if_pos (by omega)]
     (repeat (first | rfl | rw [if_pos (by omega)] | rw [if_neg (by omega)]))
    ·skip
     simp (disch := omega) only [go_sem, k12, k11, a1, b1, x1, x2, c1]
     refine DFin.dropA r hr (DFin.refl ⟨?_, rfl⟩)
     congr 2
     rw [levelE, if_neg (by omega), if_neg (by omega), if_pos (by omega)]
     (repeat (first | rfl | rw [if_pos (by omega)] | rw [if_neg (by omega)]))
 simp (disch := omega) only [go_sem, k11, k12, k13, k14]
 exact DFin.dropA r hr (DFin.refl ⟨by simp [levelE, k11, k12, k13, k14], rfl⟩)
theorem rlevel_spec (G : Nat → DVal) (H : DHeap) (e : Ex) : DCalls Tryz.prog G 22 [.agg (dEx e)] H (DRet (dI (levelE e)) H) := by
 refine dcalls_intro Tryz.func22 Tryz.call22 rfl (by kernel_rfl) ?_
 simp (disch := omega) only [go_sem, DVal.cells]
 intro r hr; dsimp only at hr
 by_cases k13 : e.kind = 13
 ·skip
  simp (disch := omega) only [go_sem, k13]
  exact DFin.dropA r hr (DFin.refl ⟨by simp [levelE, k13], rfl⟩)
 by_cases k14 : e.kind = 14
 ·skip
  simp (disch := omega) only [go_sem, k13, k14]
  exact DFin.dropA r hr (DFin.refl ⟨by simp [levelE, k13, k14], rfl⟩)
 by_cases k11 : e.kind = 11
 ·by_cases o18 : e.oper = 18
  ·skip
   simp (disch := omega) only [go_sem, k11, o18]
   exact DFin.dropA r hr (DFin.refl ⟨by simp [levelE, k11, o18], rfl⟩)
  by_cases o19 : e.oper = 19
  ·skip
   simp (disch := omega) only [go_sem, k11, o18, o19]
   exact DFin.dropA r hr (DFin.refl ⟨by simp [levelE, k11, o18, o19], rfl⟩)
  by_cases o20 : e.oper = 20
  ·skip
   simp (disch := omega) only [go_sem, k11, o18, o19, o20]
   exact DFin.dropA r hr (DFin.refl ⟨by simp [levelE, k11, o18, o19, o20], rfl⟩)
  by_cases o21 : e.oper = 21
  ·skip
   simp (disch := omega) only [go_sem, k11, o18, o19, o20, o21]
   exact DFin.dropA r hr (DFin.refl ⟨by simp [levelE, k11, o18, o19, o20, o21], rfl⟩)
  simp (disch := omega) only [go_sem, k11, o18, o19, o20, o21]
  exact DFin.dropA r hr (DFin.refl ⟨by simp [levelE, k11, o18, o19, o20, o21], rfl⟩)
 by_cases k12 : e.kind = 12
 ·by_cases a1 : 13 ≤ e.oper
  ·by_cases a2 : e.oper ≤ 17
   ·skip
    simp (disch := omega) only [go_sem, k12, k11, a1, a2]
    refine DFin.dropA r hr (DFin.refl ⟨?_, rfl⟩)
    congr 2
    rw [levelE, if_neg (by omega), if_neg (by omega), if_pos (by omega)]
    (repeat (first | rfl | rw [if_pos (by omega)] | rw [if_neg (by omega)]))
   ·have b1 : 7 ≤ e.oper := by omega
    have b2 : ¬ e.oper ≤ 12 := by omega
    have c1 : 3 ≤ e.oper := by omega
    have c2 : ¬ e.oper ≤ 6 := by omega
    have x1 : ¬ e.oper = 1 := by omega
    have x2 : ¬ e.oper = 2 := by omega
    simp (disch := omega) only [go_sem, k12, k11, a1, a2, b1, b2, x1, x2, c1, c2]
    refine DFin.dropA r hr (DFin.refl ⟨?_, rfl⟩)
    congr 2
    rw [levelE, if_neg (by omega), if_neg (by omega), if_pos (by omega)]
    (repeat (first | rfl | rw [if_pos (by omega)] | rw [if_neg (by omega)]))
  ·by_cases b1 : 7 ≤ e.oper
   ·have b2 : e.oper ≤ 12 := by omega
    simp (disch := omega) only [go_sem, k12, k11, a1, b1, b2]
    refine DFin.dropA r hr (DFin.refl ⟨?_, rfl⟩)
    congr 2
    rw [levelE, if_neg (by omega), if_neg (by omega), if_pos (by omega)]
    (repeat (first | rfl | rw [if_pos (by omega)] | rw [if_neg (by omega)]))
   ·by_cases x1 : e.oper = 1
    ·skip
     simp (disch := omega) only [go_sem, k12, k11, x1]
     refine DFin.dropA r hr (DFin.refl ⟨?_, rfl⟩)
     congr 2
     rw [levelE, if_neg (by omega), if_neg (by omega), if_pos (by omega)]
     (repeat (first | rfl | rw [if_pos (by omega)] | rw [if_neg (by omega)]))
    by_cases x2 : e.oper = 2
    ·skip
     simp (disch := omega) only [go_sem, k12, k11, x2]
     refine DFin.dropA r hr (DFin.refl ⟨?_, rfl⟩)
     congr 2
     rw [levelE, if_neg (by omega), if_neg (by omega), if_pos (by omega)]
     (repeat (first | rfl | rw [if_pos (by omega)] | rw [if_neg (by omega)]))
    by_cases c1 : 3 ≤ e.oper
    ·have c2 : e.oper ≤ 6 := by omega
     simp (disch := omega) only [go_sem, k12, k11, a1, b1, x1, x2, c1, c2]
     refine DFin.dropA r hr (DFin.refl ⟨?_, rfl⟩)
     congr 2
     rw [levelE, if_neg (by omega), if_neg (by omega), if_pos (by omega)]
     (repeat (first | rfl | rw [if_pos (by omega)] | rw [if_neg (by omega)]))
    ·skip
     simp (disch := omega) only [go_sem, k12, k11, a1, b1, x1, x2, c1]
     refine DFin.dropA r hr (DFin.refl ⟨?_, rfl⟩)
     congr 2
     rw [levelE, if_neg (by omega), if_neg (by omega), if_pos (by omega)]
     (repeat (first | rfl | rw [if_pos (by omega)] | rw [if_neg (by omega)]))
 simp (disch := omega) only [go_sem, k11, k12, k13, k14]
 exact DFin.dropA r hr (DFin.refl ⟨by simp [levelE, k11, k12, k13, k14], rfl⟩)
end
end Go.Dl

-- Chapter 3: the reference: what is valid: arguments, choices, associations.
namespace Go.Dl
open Go Go.Proofs
set_option maxRecDepth 100000
def plainE (e : Ex) (o n s a : Bool) : Bool := (o || zO e) && (n || zN e) && (s || zS e) && (a || zA e)
section
variable {G : Nat → DVal} {H : DHeap}
theorem rmonadic_spec (G : Nat → DVal) (H : DHeap) (o : Int) : DCalls Tryz.prog G 169 [.int .u8 o] H (DRet (.bool (decide (18 ≤ o) && decide (o ≤ 21))) H) := by
 refine dcalls_intro Tryz.func169 Tryz.call169 rfl (by kernel_rfl) ?_
 by_cases h : 18 ≤ o
 ·simp (disch := omega) only [go_sem, h]
  exact DFin.refl ⟨by simp, rfl⟩
 ·simp (disch := omega) only [go_sem, h]
  exact DFin.refl ⟨by simp, rfl⟩
theorem rdyadic_spec (G : Nat → DVal) (H : DHeap) (o : Int) : DCalls Tryz.prog G 170 [.int .u8 o] H (DRet (.bool (decide (1 ≤ o) && decide (o ≤ 17))) H) := by
 refine dcalls_intro Tryz.func170 Tryz.call170 rfl (by kernel_rfl) ?_
 by_cases h : 1 ≤ o
 ·simp (disch := omega) only [go_sem, h]
  exact DFin.refl ⟨by simp, rfl⟩
 ·simp (disch := omega) only [go_sem, h]
  exact DFin.refl ⟨by simp, rfl⟩
theorem rplain_spec (G : Nat → DVal) (H : DHeap) (e : Ex) (o n s a : Bool) : DCalls Tryz.prog G 165 [.agg (dEx e), .bool o, .bool n, .bool s, .bool a] H (DRet (.bool (plainE e o n s a)) H) := by
 refine dcalls_intro Tryz.func165 Tryz.call165 rfl (by kernel_rfl) ?_
 simp (disch := omega) only [go_sem, DVal.cells]
 intro r hr; dsimp only at hr
 have fin : ∀ b, b = plainE e o n s a → DFin (DRet (.bool (plainE e o n s a)) H) (.bool b) (upd H r (some (.cells (dEx e) 27))) := fun b hb => DFin.dropA r hr (DFin.refl ⟨by rw [hb], rfl⟩)
 cases o with
 | true =>
  cases n with
  | true =>
   cases s with
   | true =>
    cases a with
    | true =>
     simp (disch := omega) only [go_sem]
     exact fin _ (by simp [plainE, zO, zN, zS, zA, isEmpty_len])
    | false =>
     by_cases h4 : e.a.length = 0
     ·have h4' : (e.a.length : Int) = 0 := by omega
      have y4 : e.a = [] := List.length_eq_zero_iff.1 h4
      simp (disch := omega) only [go_sem, h4']
      exact fin _ (by simp [plainE, zO, zN, zS, zA, isEmpty_len, y4])
     ·have h4' : ¬ ((e.a.length : Int) = 0) := by omega
      have y4 : ¬ e.a = [] := fun e4 => h4 (by rw [e4]; rfl)
      simp (disch := omega) only [go_sem, h4']
      exact fin _ (by simp [plainE, zO, zN, zS, zA, isEmpty_len, y4])
   | false =>
    by_cases h3 : e.s = []
    ·skip
     cases a with
     | true =>
      simp (disch := omega) only [go_sem, h3]
      exact fin _ (by simp [plainE, zO, zN, zS, zA, isEmpty_len, h3])
     | false =>
      by_cases h4 : e.a.length = 0
      ·have h4' : (e.a.length : Int) = 0 := by omega
       have y4 : e.a = [] := List.length_eq_zero_iff.1 h4
       simp (disch := omega) only [go_sem, h3, h4']
       exact fin _ (by simp [plainE, zO, zN, zS, zA, isEmpty_len, h3, y4])
      ·have h4' : ¬ ((e.a.length : Int) = 0) := by omega
       have y4 : ¬ e.a = [] := fun e4 => h4 (by rw [e4]; rfl)
       simp (disch := omega) only [go_sem, h3, h4']
       exact fin _ (by simp [plainE, zO, zN, zS, zA, isEmpty_len, h3, y4])
    ·skip
     simp (disch := omega) only [go_sem, h3]
     exact fin _ (by simp [plainE, zO, zN, zS, zA, isEmpty_len, h3])
  | false =>
   by_cases h2 : e.n = 0
   ·skip
    cases s with
    | true =>
     cases a with
     | true =>
      simp (disch := omega) only [go_sem, h2]
      exact fin _ (by simp [plainE, zO, zN, zS, zA, isEmpty_len, h2])
     | false =>
      by_cases h4 : e.a.length = 0
      ·have h4' : (e.a.length : Int) = 0 := by omega
       have y4 : e.a = [] := List.length_eq_zero_iff.1 h4
       simp (disch := omega) only [go_sem, h2, h4']
       exact fin _ (by simp [plainE, zO, zN, zS, zA, isEmpty_len, h2, y4])
      ·have h4' : ¬ ((e.a.length : Int) = 0) := by omega
       have y4 : ¬ e.a = [] := fun e4 => h4 (by rw [e4]; rfl)
       simp (disch := omega) only [go_sem, h2, h4']
       exact fin _ (by simp [plainE, zO, zN, zS, zA, isEmpty_len, h2, y4])
    | false =>
     by_cases h3 : e.s = []
     ·skip
      cases a with
      | true =>
       simp (disch := omega) only [go_sem, h2, h3]
       exact fin _ (by simp [plainE, zO, zN, zS, zA, isEmpty_len, h2, h3])
      | false =>
       by_cases h4 : e.a.length = 0
       ·have h4' : (e.a.length : Int) = 0 := by omega
        have y4 : e.a = [] := List.length_eq_zero_iff.1 h4
        simp (disch := omega) only [go_sem, h2, h3, h4']
        exact fin _ (by simp [plainE, zO, zN, zS, zA, isEmpty_len, h2, h3, y4])
       ·have h4' : ¬ ((e.a.length : Int) = 0) := by omega
        have y4 : ¬ e.a = [] := fun e4 => h4 (by rw [e4]; rfl)
        simp (disch := omega) only [go_sem, h2, h3, h4']
        exact fin _ (by simp [plainE, zO, zN, zS, zA, isEmpty_len, h2, h3, y4])
     ·skip
      simp (disch := omega) only [go_sem, h2, h3]
      exact fin _ (by simp [plainE, zO, zN, zS, zA, isEmpty_len, h2, h3])
   ·skip
    simp (disch := omega) only [go_sem, h2]
    exact fin _ (by simp [plainE, zO, zN, zS, zA, isEmpty_len, h2])
 | false =>
  by_cases h1 : e.oper = 0
  ·skip
   cases n with
   | true =>
    cases s with
    | true =>
     cases a with
     | true =>
      simp (disch := omega) only [go_sem, h1]
      exact fin _ (by simp [plainE, zO, zN, zS, zA, isEmpty_len, h1])
     | false =>
      by_cases h4 : e.a.length = 0
      ·have h4' : (e.a.length : Int) = 0 := by omega
       have y4 : e.a = [] := List.length_eq_zero_iff.1 h4
       simp (disch := omega) only [go_sem, h1, h4']
       exact fin _ (by simp [plainE, zO, zN, zS, zA, isEmpty_len, h1, y4])
      ·have h4' : ¬ ((e.a.length : Int) = 0) := by omega
       have y4 : ¬ e.a = [] := fun e4 => h4 (by rw [e4]; rfl)
       simp (disch := omega) only [go_sem, h1, h4']
       exact fin _ (by simp [plainE, zO, zN, zS, zA, isEmpty_len, h1, y4])
    | false =>
     by_cases h3 : e.s = []
     ·skip
      cases a with
      | true =>
       simp (disch := omega) only [go_sem, h1, h3]
       exact fin _ (by simp [plainE, zO, zN, zS, zA, isEmpty_len, h1, h3])
      | false =>
       by_cases h4 : e.a.length = 0
       ·have h4' : (e.a.length : Int) = 0 := by omega
        have y4 : e.a = [] := List.length_eq_zero_iff.1 h4
        simp (disch := omega) only [go_sem, h1, h3, h4']
        exact fin _ (by simp [plainE, zO, zN, zS, zA, isEmpty_len, h1, h3, y4])
       ·have h4' : ¬ ((e.a.length : Int) = 0) := by omega
        have y4 : ¬ e.a = [] := fun e4 => h4 (by rw [e4]; rfl)
        simp (disch := omega) only [go_sem, h1, h3, h4']
        exact fin _ (by simp [plainE, zO, zN, zS, zA, isEmpty_len, h1, h3, y4])
     ·skip
      simp (disch := omega) only [go_sem, h1, h3]
      exact fin _ (by simp [plainE, zO, zN, zS, zA, isEmpty_len, h1, h3])
   | false =>
    by_cases h2 : e.n = 0
    ·skip
     cases s with
     | true =>
      cases a with
      | true =>
       simp (disch := omega) only [go_sem, h1, h2]
       exact fin _ (by simp [plainE, zO, zN, zS, zA, isEmpty_len, h1, h2])
      | false =>
       by_cases h4 : e.a.length = 0
       ·have h4' : (e.a.length : Int) = 0 := by omega
        have y4 : e.a = [] := List.length_eq_zero_iff.1 h4
        simp (disch := omega) only [go_sem, h1, h2, h4']
        exact fin _ (by simp [plainE, zO, zN, zS, zA, isEmpty_len, h1, h2, y4])
       ·have h4' : ¬ ((e.a.length : Int) = 0) := by omega
        have y4 : ¬ e.a = [] := fun e4 => h4 (by rw [e4]; rfl)
        simp (disch := omega) only [go_sem, h1, h2, h4']
        exact fin _ (by simp [plainE, zO, zN, zS, zA, isEmpty_len, h1, h2, y4])
     | false =>
      by_cases h3 : e.s = []
      ·skip
       cases a with
       | true =>
        simp (disch := omega) only [go_sem, h1, h2, h3]
        exact fin _ (by simp [plainE, zO, zN, zS, zA, isEmpty_len, h1, h2, h3])
       | false =>
        by_cases h4 : e.a.length = 0
        ·have h4' : (e.a.length : Int) = 0 := by omega
         have y4 : e.a = [] := List.length_eq_zero_iff.1 h4
         simp (disch := omega) only [go_sem, h1, h2, h3, h4']
         exact fin _ (by simp [plainE, zO, zN, zS, zA, isEmpty_len, h1, h2, h3, y4])
        ·have h4' : ¬ ((e.a.length : Int) = 0) := by omega
         have y4 : ¬ e.a = [] := fun e4 => h4 (by rw [e4]; rfl)
         simp (disch := omega) only [go_sem, h1, h2, h3, h4']
         exact fin _ (by simp [plainE, zO, zN, zS, zA, isEmpty_len, h1, h2, h3, y4])
      ·skip
       simp (disch := omega) only [go_sem, h1, h2, h3]
       exact fin _ (by simp [plainE, zO, zN, zS, zA, isEmpty_len, h1, h2, h3])
    ·skip
     simp (disch := omega) only [go_sem, h1, h2]
     exact fin _ (by simp [plainE, zO, zN, zS, zA, isEmpty_len, h1, h2])
  ·skip
   simp (disch := omega) only [go_sem, h1]
   exact fin _ (by simp [plainE, zO, zN, zS, zA, isEmpty_len, h1])
theorem take_pair {l : List As} {k : Nat} (h : ∀ i (_ : i + 1 < k) (hi : i + 1 < l.length), (l[i].c.isEmpty || !l[i + 1].c.isEmpty) = true) (hk : k < l.length) (hx : ∀ (h0 : 0 < k), ((l[k - 1]'(by omega)).c.isEmpty || !l[k].c.isEmpty) = true) :
  ∀ i (_ : i + 1 < k + 1) (hi : i + 1 < l.length), (l[i].c.isEmpty || !l[i + 1].c.isEmpty) = true := fun i hi hil => by
 by_cases e : i + 1 < k
 ·exact h i e hil
 ·have : i + 1 = k := by omega
  subst this
  exact hx (by omega)
theorem rfirst_spec (G : Nat → DVal) (H : DHeap) (l : List As) (hl : l.length ≤ 1099511627776) : DCalls Tryz.prog G 189 [.vslice (l.flatMap dAs) l.length] H (DRet (.bool (inOrd l)) H) := by
 refine dcalls_intro Tryz.func189 Tryz.call189 rfl (by kernel_rfl) ?_
 simp (disch := omega) only [go_sem]
 obtain ⟨I, hI⟩ : ∃ I : Nat → (Nat → DVal) → DHeap → Prop, ∀ k env heap, I k env heap ↔ (env 0 = .vslice (l.flatMap dAs) l.length ∧ env 3 = dI k ∧ 1 ≤ k ∧ (k ≤ l.length ∨ k = 1) ∧ (∀ i (_ : i + 1 < k) (hi : i + 1 < l.length), (l[i].c.isEmpty || !l[i + 1].c.isEmpty) = true) ∧ heap = H) := ⟨_, fun _ _ _ => Iff.rfl⟩
 refine DLoop.run I (fun k => l.length - k) 1 ((hI _ _ _).2 ?_) ?_
 ·simp (disch := omega) only [go_sem]
  (repeat' apply And.intro) <;> (try first | rfl | assumption | omega)
  all_goals first | exact .inr trivial | (intro i h1 h2; omega)
 ·intro k env heap hi
  obtain ⟨e0, e3, hk1, hk, hn, rfl⟩ := (hI _ _ _).1 hi
  have hfl := flat_len dAs_len l
  by_cases hlt : k < l.length
  ·have hlt' : (k : Int) < (l.length : Int) := by omega
   have gk := flat_get dAs_len l k hlt 0 (by decide)
   have gp := flat_get dAs_len l (k - 1) (by omega) 0 (by decide)
   rw [dAs_0, Nat.add_zero] at gk gp
   have hwd : IntKind.i64.wrap ((k : Int) + 1) = ((k + 1 : Nat) : Int) := by rw [IntKind.wrap_i64]; omega
   have hwk : IntKind.i64.wrap ((k : Int) - 1) = ((k - 1 : Nat) : Int) := by rw [IntKind.wrap_i64]; omega
   have hkp : ((k - 1 : Nat) : Int) < (l.length : Int) := by omega
   by_cases q1 : l[k].c.length = 0
   ·have q1' : (l[k].c.length : Int) = 0 := by omega
    have y1 : l[k].c.isEmpty = true := by rw [isEmpty_len]; exact decide_eq_true q1
    by_cases q2 : 0 < l[k - 1].c.length
    ·have q2' : (0 : Int) < (l[k - 1].c.length : Int) := by omega
     have y2 : l[k - 1].c.isEmpty = false := by rw [isEmpty_len]; exact decide_eq_false (by omega)
     simp (disch := omega) only [go_sem, e0, e3, hlt', hfl, gk, gp, hwk, hkp, q1', q2', Int.toNat_natCast]
     refine DFin.refl ⟨?_, rfl⟩
     have : inOrd l = false := by
      rw [← Bool.not_eq_true, inOrd_iff]
      intro h
      have := h (k - 1) (by omega)
      rw [y2] at this
      have e : k - 1 + 1 = k := by omega
      simp only [e] at this
      rw [y1] at this
      cases this
     rw [this]
    ·have q2' : ¬ (0 : Int) < (l[k - 1].c.length : Int) := by omega
     have y2 : l[k - 1].c.isEmpty = true := by rw [isEmpty_len]; exact decide_eq_true (by omega)
     simp (disch := omega) only [go_sem, e0, e3, hlt', hfl, gk, gp, hwk, hkp, q1', q2', Int.toNat_natCast]
     refine ⟨k + 1, _, GhostS.refl _, (hI _ _ _).2 ?_, by omega⟩
     simp (disch := omega) only [go_sem, e0, e3, hwd]
     (repeat' apply And.intro) <;> (try first | rfl | assumption | omega)
     exact take_pair hn hlt fun _ => by rw [y2]; rfl
   ·have q1' : ¬ (l[k].c.length : Int) = 0 := by omega
    have y1 : l[k].c.isEmpty = false := by rw [isEmpty_len]; exact decide_eq_false q1
    simp (disch := omega) only [go_sem, e0, e3, hlt', hfl, gk, q1', Int.toNat_natCast]
    refine ⟨k + 1, _, GhostS.refl _, (hI _ _ _).2 ?_, by omega⟩
    simp (disch := omega) only [go_sem, e0, e3, hwd]
    (repeat' apply And.intro) <;> (try first | rfl | assumption | omega)
    exact take_pair hn hlt fun _ => by rw [y1]; simp
  ·have hlt' : ¬ (k : Int) < (l.length : Int) := by omega
   simp (disch := omega) only [go_sem, e0, e3, hlt']
   exact DFin.refl ⟨by rw [inOrd_iff.2 fun i h => hn i (by omega) h], rfl⟩
theorem rarguments_spec (G : Nat → DVal) (H : DHeap) (l : List As) (hl : l.length ≤ 1099511627776) : DCalls Tryz.prog G 167 [.vslice (l.flatMap dAs) l.length] H (DRet (.bool (argsOk l)) H) := by
 have hfl := flat_len dAs_len l
 refine dcalls_intro Tryz.func167 Tryz.call167 rfl (by kernel_rfl) ?_
 by_cases h1 : l.length < 1
 ·have h1' : (l.length : Int) < 1 := by omega
  simp (disch := omega) only [go_sem, h1']
  exact DFin.refl ⟨by rw [argsOk, decide_eq_false (show ¬ 0 < l.length by omega), Bool.false_and, Bool.false_and, Bool.false_and], rfl⟩
 have h1' : ¬ (l.length : Int) < 1 := by omega
 by_cases h2 : 8 < l.length
 ·have h2' : (8 : Int) < (l.length : Int) := by omega
  simp (disch := omega) only [go_sem, h1', h2']
  exact DFin.refl ⟨by rw [argsOk, decide_eq_false (show ¬ l.length ≤ 8 by omega), Bool.and_false, Bool.false_and, Bool.false_and], rfl⟩
 have h2' : ¬ (8 : Int) < (l.length : Int) := by omega
 simp (disch := omega) only [go_sem, h1', h2']
 refine (rfirst_spec G _ l hl).mono ?_
 rintro _ H1 ⟨rfl, rfl⟩
 have hd : argsOk l = (inOrd l && l.all fun a => a.c.isEmpty || simpleCs a.c) := by
  rw [argsOk, decide_eq_true (show 0 < l.length by omega), decide_eq_true (show l.length ≤ 8 by omega), Bool.true_and, Bool.true_and]
 rw [hd]
 cases h3 : inOrd l with
 | false =>
  simp (disch := omega) only [go_sem]
  exact DFin.refl ⟨rfl, rfl⟩
 | true =>
  simp (disch := omega) only [go_sem]
  obtain ⟨I, hI⟩ : ∃ I : Nat → (Nat → DVal) → DHeap → Prop, ∀ k env heap, I k env heap ↔ (env 0 = .vslice (l.flatMap dAs) l.length ∧ env 3 = dI k ∧ k ≤ l.length ∧ (∀ a ∈ l.take k, (a.c.isEmpty || simpleCs a.c) = true) ∧ heap = H1) := ⟨_, fun _ _ _ => Iff.rfl⟩
  refine DLoop.run I (fun k => l.length - k) 0 ((hI _ _ _).2 ?_) ?_
  ·simp (disch := omega) only [go_sem]
   (repeat' apply And.intro) <;> (try first | rfl | assumption | omega)
   intro a ha; simp at ha
  ·intro k env heap hi
   obtain ⟨e0, e3, hk, hn, rfl⟩ := (hI _ _ _).1 hi
   by_cases hlt : k < l.length
   ·have hlt' : (k : Int) < (l.length : Int) := by omega
    have gk := flat_get dAs_len l k hlt 0 (by decide)
    rw [dAs_0, Nat.add_zero] at gk
    have hwd : IntKind.i64.wrap ((k : Int) + 1) = ((k + 1 : Nat) : Int) := by rw [IntKind.wrap_i64]; omega
    obtain ⟨a, ha⟩ : ∃ a, a = l[k] := ⟨_, rfl⟩
    rw [← ha] at gk
    have no : (a.c.isEmpty || simpleCs a.c) = false → (l.all fun a => a.c.isEmpty || simpleCs a.c) = false := fun h => by
     rw [List.all_eq_false]; exact ⟨l[k], List.getElem_mem hlt, by rw [← ha, h]; simp⟩
    have yes : (a.c.isEmpty || simpleCs a.c) = true → ∀ x ∈ l.take (k + 1), (x.c.isEmpty || simpleCs x.c) = true := fun h => take_next (p := fun x => (x.c.isEmpty || simpleCs x.c) = true) hlt hn (by rw [← ha]; exact h)
    have hfc := flat_len dCh_len a.c
    by_cases q1 : 1 < a.c.length
    ·have q1' : (1 : Int) < (a.c.length : Int) := by omega
     have hs : (a.c.isEmpty || simpleCs a.c) = false := by
      rw [isEmpty_len, decide_eq_false (by omega), Bool.false_or]
      unfold simpleCs
      split
      ·rename_i h; rw [h] at q1; simp at q1
      ·rfl
     simp (disch := omega) only [go_sem, e0, e3, hlt', hfl, gk, q1', Int.toNat_natCast]
     exact DFin.refl ⟨by rw [no hs], rfl⟩
    have q1' : ¬ (1 : Int) < (a.c.length : Int) := by omega
    by_cases q2 : a.c.length = 1
    ·have q2' : (a.c.length : Int) = 1 := by omega
     obtain ⟨g0, g1⟩ := ch0 (l := a.c) (by omega)
     obtain ⟨c, hc⟩ := List.length_eq_one_iff.1 q2
     have ec : a.c[0] = c := by simp [hc]
     rw [ec] at g0 g1
     have he : a.c.isEmpty = false := by rw [hc]; rfl
     by_cases q3 : c.kind = 1
     ·by_cases q4 : c.l.length = 1
      ·have q4' : (c.l.length : Int) = 1 := by omega
       have g2 := ex0k (l := c.l) (by omega)
       have hfe := flat_len dEx_len c.l
       obtain ⟨x, hx⟩ := List.length_eq_one_iff.1 q4
       have e : c.l[0] = x := by simp [hx]
       rw [e] at g2
       have hs : simpleCs a.c = decide (x.kind = 3) := by rw [hc]; simp [simpleCs, q3, hx]
       by_cases q5 : x.kind = 3
       ·simp (disch := omega) only [go_sem, e0, e3, hlt', hfl, gk, q1', q2', g0, g1, q3, q4', g2, hfe, hfc, q5, Int.toNat_natCast]
        refine ⟨k + 1, _, GhostS.refl _, (hI _ _ _).2 ?_, by omega⟩
        simp (disch := omega) only [go_sem, e0, e3, hwd]
        (repeat' apply And.intro) <;> (try first | rfl | assumption | omega)
        exact yes (by rw [hs, decide_eq_true q5, Bool.or_true])
       ·simp (disch := omega) only [go_sem, e0, e3, hlt', hfl, gk, q1', q2', g0, g1, q3, q4', g2, hfe, hfc, q5, Int.toNat_natCast]
        exact DFin.refl ⟨by rw [no (by rw [he, hs, decide_eq_false q5]; rfl)], rfl⟩
      ·have q4' : ¬ (c.l.length : Int) = 1 := by omega
       have hs : simpleCs a.c = false := by
        rw [hc, simpleCs]
        split
        ·rename_i hx; rw [hx] at q4; simp at q4
        ·simp
       simp (disch := omega) only [go_sem, e0, e3, hlt', hfl, gk, q1', q2', g0, g1, q3, q4', hfc, Int.toNat_natCast]
       exact DFin.refl ⟨by rw [no (by rw [he, hs]; rfl)], rfl⟩
     ·simp (disch := omega) only [go_sem, e0, e3, hlt', hfl, gk, q1', q2', g0, g1, q3, hfc, Int.toNat_natCast]
      exact DFin.refl ⟨by rw [no (by rw [he, hc]; simp [simpleCs, q3])], rfl⟩
    ·have q2' : ¬ (a.c.length : Int) = 1 := by omega
     simp (disch := omega) only [go_sem, e0, e3, hlt', hfl, gk, q1', q2', Int.toNat_natCast]
     refine ⟨k + 1, _, GhostS.refl _, (hI _ _ _).2 ?_, by omega⟩
     simp (disch := omega) only [go_sem, e0, e3, hwd]
     (repeat' apply And.intro) <;> (try first | rfl | assumption | omega)
     exact yes (by rw [isEmpty_len, decide_eq_true (by omega), Bool.true_or])
   ·have : k = l.length := by omega
    subst this
    rw [List.take_length] at hn
    simp (disch := omega) only [go_sem, e0, e3]
    exact DFin.refl ⟨by simp [List.all_eq_true.2 hn], rfl⟩
theorem rchoices_spec (G : Nat → DVal) (H : DHeap) (l : List Ch) (hl : l.length ≤ 1099511627776) : DCalls Tryz.prog G 80 [.vslice (l.flatMap dCh) l.length] H (DRet (.bool (rightCs l)) H) := by
 have hfl := flat_len dCh_len l
 refine dcalls_intro Tryz.func80 Tryz.call80 rfl (by kernel_rfl) ?_
 by_cases h1 : l.length < 1
 ·have h1' : (l.length : Int) < 1 := by omega
  simp (disch := omega) only [go_sem, h1']
  exact DFin.refl ⟨by rw [rightCs, decide_eq_false (show ¬ 0 < l.length by omega), Bool.false_and, Bool.false_and], rfl⟩
 have h1' : ¬ (l.length : Int) < 1 := by omega
 by_cases h2 : 16 < l.length
 ·have h2' : (16 : Int) < (l.length : Int) := by omega
  simp (disch := omega) only [go_sem, h1', h2']
  exact DFin.refl ⟨by rw [rightCs, decide_eq_false (show ¬ l.length ≤ 16 by omega), Bool.and_false, Bool.false_and], rfl⟩
 have h2' : ¬ (16 : Int) < (l.length : Int) := by omega
 have hd : rightCs l = l.all (rightC l.length) := by
  rw [rightCs, decide_eq_true (show 0 < l.length by omega), decide_eq_true (show l.length ≤ 16 by omega), Bool.true_and, Bool.true_and]
 rw [hd]
 simp (disch := omega) only [go_sem, h1', h2']
 obtain ⟨I, hI⟩ : ∃ I : Nat → (Nat → DVal) → DHeap → Prop, ∀ k env heap, I k env heap ↔ (env 0 = .vslice (l.flatMap dCh) l.length ∧ env 3 = dI k ∧ k ≤ l.length ∧ (∀ a ∈ l.take k, rightC l.length a = true) ∧ heap = H) := ⟨_, fun _ _ _ => Iff.rfl⟩
 refine DLoop.run I (fun k => l.length - k) 0 ((hI _ _ _).2 ?_) ?_
 ·simp (disch := omega) only [go_sem]
  (repeat' apply And.intro) <;> (try first | rfl | assumption | omega)
  intro a ha; simp at ha
 ·intro k env heap hi
  obtain ⟨e0, e3, hk, hn, rfl⟩ := (hI _ _ _).1 hi
  by_cases hlt : k < l.length
  ·have hlt' : (k : Int) < (l.length : Int) := by omega
   have gk := flat_get dCh_len l k hlt 0 (by decide)
   have gl := flat_get dCh_len l k hlt 1 (by decide)
   rw [dCh_0, Nat.add_zero] at gk
   rw [dCh_1] at gl
   have hwd : IntKind.i64.wrap ((k : Int) + 1) = ((k + 1 : Nat) : Int) := by rw [IntKind.wrap_i64]; omega
   have no : rightC l.length l[k] = false → l.all (rightC l.length) = false := fun h => by
    rw [List.all_eq_false]; exact ⟨l[k], List.getElem_mem hlt, by rw [h]; simp⟩
   have yes : rightC l.length l[k] = true → ∀ x ∈ l.take (k + 1), rightC l.length x = true := fun h => take_next (p := fun x => rightC l.length x = true) hlt hn h
   obtain ⟨c, hc⟩ : ∃ c, c = l[k] := ⟨_, rfl⟩
   rw [← hc] at gk gl no yes
   by_cases k1 : c.kind = 1
   ·by_cases q : c.l.length = 1
    ·have q' : (c.l.length : Int) = 1 := by omega
     simp (disch := omega) only [go_sem, e0, e3, hlt', hfl, gk, gl, k1, q', Int.toNat_natCast]
     refine ⟨k + 1, _, GhostS.refl _, (hI _ _ _).2 ?_, by omega⟩
     simp (disch := omega) only [go_sem, e0, e3, hwd]
     (repeat' apply And.intro) <;> (try first | rfl | assumption | omega)
     exact yes (by simp [rightC, k1, q])
    ·have q' : ¬ (c.l.length : Int) = 1 := by omega
     simp (disch := omega) only [go_sem, e0, e3, hlt', hfl, gk, gl, k1, q', Int.toNat_natCast]
     exact DFin.refl ⟨by rw [no (by simp [rightC, k1, q])], rfl⟩
   by_cases k2 : c.kind = 2
   ·by_cases q : c.l.length = 2
    ·have q' : (c.l.length : Int) = 2 := by omega
     simp (disch := omega) only [go_sem, e0, e3, hlt', hfl, gk, gl, k2, q', Int.toNat_natCast]
     refine ⟨k + 1, _, GhostS.refl _, (hI _ _ _).2 ?_, by omega⟩
     simp (disch := omega) only [go_sem, e0, e3, hwd]
     (repeat' apply And.intro) <;> (try first | rfl | assumption | omega)
     exact yes (by simp [rightC, k2, q])
    ·have q' : ¬ (c.l.length : Int) = 2 := by omega
     simp (disch := omega) only [go_sem, e0, e3, hlt', hfl, gk, gl, k2, q', Int.toNat_natCast]
     exact DFin.refl ⟨by rw [no (by simp [rightC, k2, q])], rfl⟩
   by_cases k3 : c.kind = 3
   ·by_cases q : c.l.length = 0
    ·have q' : (c.l.length : Int) = 0 := by omega
     by_cases q2 : 1 < l.length
     ·have q2' : (1 : Int) < (l.length : Int) := by omega
      simp (disch := omega) only [go_sem, e0, e3, hlt', hfl, gk, gl, k3, q', q2', Int.toNat_natCast]
      exact DFin.refl ⟨by rw [no (by simp [rightC, k3, q]; omega)], rfl⟩
     ·have q2' : ¬ (1 : Int) < (l.length : Int) := by omega
      simp (disch := omega) only [go_sem, e0, e3, hlt', hfl, gk, gl, k3, q', q2', Int.toNat_natCast]
      refine ⟨k + 1, _, GhostS.refl _, (hI _ _ _).2 ?_, by omega⟩
      simp (disch := omega) only [go_sem, e0, e3, hwd]
      (repeat' apply And.intro) <;> (try first | rfl | assumption | omega)
      exact yes (by simp [rightC, k3, q]; omega)
    ·have q' : ¬ (c.l.length : Int) = 0 := by omega
     simp (disch := omega) only [go_sem, e0, e3, hlt', hfl, gk, gl, k3, q', Int.toNat_natCast]
     exact DFin.refl ⟨by rw [no (by simp [rightC, k3, q])], rfl⟩
   ·have q' : ¬ (c.l.length : Int) = -1 := by omega
    simp (disch := omega) only [go_sem, e0, e3, hlt', hfl, gk, gl, k1, k2, k3, q', Int.toNat_natCast]
    exact DFin.refl ⟨by rw [no (by simp [rightC, k1, k2, k3])], rfl⟩
  ·have : k = l.length := by omega
   subst this
   rw [List.take_length] at hn
   simp (disch := omega) only [go_sem, e0, e3]
   exact DFin.refl ⟨by rw [List.all_eq_true.2 hn], rfl⟩
end
end Go.Dl

-- Chapter 3: the reference: associations, fields (printed by gen_ud.py).
namespace Go.Dl
open Go Go.Proofs
set_option maxRecDepth 100000
section
variable {G : Nat → DVal} {H : DHeap}
theorem rassociations_spec (G : Nat → DVal) (H : DHeap) (l : List As) (hl : l.length ≤ 1099511627776) (hb : ∀ a ∈ l, a.c.length ≤ 1099511627776) : DCalls Tryz.prog G 168 [.vslice (l.flatMap dAs) l.length] H (DRet (.bool (assocsOk l)) H) := by
 refine dcalls_intro Tryz.func168 Tryz.call168 rfl (by kernel_rfl) ?_
 by_cases h1 : l.length = 0
 ·have h1' : (l.length : Int) < 1 := by omega
  simp (disch := omega) only [go_sem, h1']
  exact DFin.refl ⟨by rw [assocsOk, decide_eq_false (show ¬ 0 < l.length by omega), Bool.false_and, Bool.false_and, Bool.false_and, Bool.false_and], rfl⟩
 have h1' : ¬ (l.length : Int) < 1 := by omega
 have hpos : 0 < l.length := by omega
 by_cases h2 : 32 < l.length
 ·have h2' : (32 : Int) < (l.length : Int) := by omega
  simp (disch := omega) only [go_sem, h1', h2']
  exact DFin.refl ⟨by rw [assocsOk, decide_eq_false (show ¬ l.length ≤ 32 by omega), Bool.and_false, Bool.false_and, Bool.false_and, Bool.false_and], rfl⟩
 have h2' : ¬ (32 : Int) < (l.length : Int) := by omega
 simp (disch := omega) only [go_sem, h1', h2']
 refine (rfirst_spec G _ l hl).mono ?_
 rintro _ H1 ⟨rfl, rfl⟩
 have hd : assocsOk l = (inOrd l && (!(decide (l.length = 1) && (l.getD 0 default).c.isEmpty) && assocAll l)) := by
  rw [assocsOk, decide_eq_true hpos, decide_eq_true (show l.length ≤ 32 by omega), Bool.true_and, Bool.true_and, one_unnamed, Bool.and_assoc]
 rw [hd]
 cases h3 : inOrd l with
 | false =>
  simp (disch := omega) only [go_sem]
  exact DFin.refl ⟨rfl, rfl⟩
 | true =>
  have hg0 := as0 hpos
  have hgd : l.getD 0 default = l[0] := by rw [List.getD, List.getElem?_eq_getElem hpos]; rfl
  have hfl := flat_len dAs_len l
  rw [hgd]
  by_cases h4 : l.length = 1 ∧ l[0].c.length = 0
  ·have h4a : (l.length : Int) = 1 := by omega
   have h4b : (l[0].c.length : Int) = 0 := by omega
   have e4 : l[0].c.isEmpty = true := by rw [isEmpty_len]; exact decide_eq_true h4.2
   simp (disch := omega) only [go_sem, h4a, h4b, hg0, hfl]
   exact DFin.refl ⟨by simp [e4], rfl⟩
  ·have e4 : (decide (l.length = 1) && l[0].c.isEmpty) = false := by
    rw [isEmpty_len, ← Bool.decide_and]; exact decide_eq_false h4
   rw [e4]
   by_cases h5 : l.length = 1
   ·have h5' : ((l.length : Int) = 1) = True := eq_true (by omega)
    have h6' : ¬ (l[0].c.length : Int) = 0 := by omega
    simp (disch := omega) only [go_sem, h5', h6', hg0, hfl]
    obtain ⟨I, hI⟩ : ∃ I : Nat → (Nat → DVal) → DHeap → Prop, ∀ k env heap, I k env heap ↔ (env 0 = .vslice (l.flatMap dAs) l.length ∧ env 3 = dI k ∧ k ≤ l.length ∧ assocAll l = assocAll (l.drop k) ∧ heap = H1) := ⟨_, fun _ _ _ => Iff.rfl⟩
    refine DLoop.run I (fun k => l.length - k) 0 ((hI _ _ _).2 ?_) ?_
    ·simp (disch := omega) only [go_sem]
     (repeat' apply And.intro) <;> (try first | rfl | assumption | omega)
    ·intro k env heap hi
     obtain ⟨e0, e3, hk, hall, rfl⟩ := (hI _ _ _).1 hi
     by_cases hlt : k < l.length
     ·have hlt' : (k : Int) < (l.length : Int) := by omega
      have gk := flat_get dAs_len l k hlt 0 (by decide)
      rw [dAs_0, Nat.add_zero] at gk
      have hwd : IntKind.i64.wrap ((k : Int) + 1) = ((k + 1 : Nat) : Int) := by rw [IntKind.wrap_i64]; omega
      have hwl : IntKind.i64.wrap ((l.length : Int) - 1) = (l.length : Int) - 1 := by rw [IntKind.wrap_i64]; omega
      have hba := hb l[k] (List.getElem_mem hlt)
      rw [assoc_step hlt] at hall
      by_cases q1 : 0 < l[k].c.length
      ·have q1' : (0 : Int) < (l[k].c.length : Int) := by omega
       have e1 : l[k].c.isEmpty = false := by rw [isEmpty_len]; exact decide_eq_false (by omega)
       rw [e1, Bool.false_or] at hall
       simp (disch := omega) only [go_sem, e0, e3, hlt', hfl, gk, q1', Int.toNat_natCast]
       refine (rchoices_spec G _ l[k].c hba).mono ?_
       rintro _ H2 ⟨rfl, rfl⟩
       cases q2 : rightCs l[k].c with
       | false =>
        rw [q2, Bool.false_and, Bool.false_and] at hall
        simp (disch := omega) only [go_sem, e0, e3]
        exact DFin.refl ⟨by rw [hall], rfl⟩
       | true =>
        obtain ⟨g0, _⟩ := ch0 q1
        have hfc := flat_len dCh_len l[k].c
        rw [q2, Bool.true_and, firstOthers_at q1] at hall
        by_cases q3 : l[k].c[0].kind = 3
        ·rw [decide_eq_true q3, Bool.not_true, Bool.false_or] at hall
         by_cases q4 : k + 1 = l.length
         ·have q4' : ¬ (k : Int) < (l.length : Int) - 1 := by omega
          rw [decide_eq_true q4, Bool.true_and] at hall
          simp (disch := omega) only [go_sem, e0, e3, g0, hfc, q1', q3, q4', hwl]
          refine ⟨k + 1, _, GhostS.refl _, (hI _ _ _).2 ?_, by omega⟩
          simp (disch := omega) only [go_sem, e0, e3, hwd]
          (repeat' apply And.intro) <;> (try first | rfl | assumption | omega)
         ·have q4' : (k : Int) < (l.length : Int) - 1 := by omega
          rw [decide_eq_false q4, Bool.false_and] at hall
          simp (disch := omega) only [go_sem, e0, e3, g0, hfc, q1', q3, q4', hwl]
          exact DFin.refl ⟨by rw [hall], rfl⟩
        ·rw [decide_eq_false q3, Bool.not_false, Bool.true_or, Bool.true_and] at hall
         simp (disch := omega) only [go_sem, e0, e3, g0, hfc, q1', q3]
         refine ⟨k + 1, _, GhostS.refl _, (hI _ _ _).2 ?_, by omega⟩
         simp (disch := omega) only [go_sem, e0, e3, hwd]
         (repeat' apply And.intro) <;> (try first | rfl | assumption | omega)
      ·have q1' : ¬ (0 : Int) < (l[k].c.length : Int) := by omega
       have e1 : l[k].c.isEmpty = true := by rw [isEmpty_len]; exact decide_eq_true (by omega)
       rw [e1, Bool.true_or, Bool.true_and] at hall
       simp (disch := omega) only [go_sem, e0, e3, hlt', hfl, gk, q1', Int.toNat_natCast]
       refine ⟨k + 1, _, GhostS.refl _, (hI _ _ _).2 ?_, by omega⟩
       simp (disch := omega) only [go_sem, e0, e3, hwd]
       (repeat' apply And.intro) <;> (try first | rfl | assumption | omega)
     ·have : k = l.length := by omega
      subst this
      rw [List.drop_length] at hall
      simp (disch := omega) only [go_sem, e0, e3]
      exact DFin.refl ⟨by rw [hall]; rfl, rfl⟩
   ·have h5' : ¬ (l.length : Int) = 1 := by omega
    simp (disch := omega) only [go_sem, h5']
    obtain ⟨I, hI⟩ : ∃ I : Nat → (Nat → DVal) → DHeap → Prop, ∀ k env heap, I k env heap ↔ (env 0 = .vslice (l.flatMap dAs) l.length ∧ env 3 = dI k ∧ k ≤ l.length ∧ assocAll l = assocAll (l.drop k) ∧ heap = H1) := ⟨_, fun _ _ _ => Iff.rfl⟩
    refine DLoop.run I (fun k => l.length - k) 0 ((hI _ _ _).2 ?_) ?_
    ·simp (disch := omega) only [go_sem]
     (repeat' apply And.intro) <;> (try first | rfl | assumption | omega)
    ·intro k env heap hi
     obtain ⟨e0, e3, hk, hall, rfl⟩ := (hI _ _ _).1 hi
     by_cases hlt : k < l.length
     ·have hlt' : (k : Int) < (l.length : Int) := by omega
      have gk := flat_get dAs_len l k hlt 0 (by decide)
      rw [dAs_0, Nat.add_zero] at gk
      have hwd : IntKind.i64.wrap ((k : Int) + 1) = ((k + 1 : Nat) : Int) := by rw [IntKind.wrap_i64]; omega
      have hwl : IntKind.i64.wrap ((l.length : Int) - 1) = (l.length : Int) - 1 := by rw [IntKind.wrap_i64]; omega
      have hba := hb l[k] (List.getElem_mem hlt)
      rw [assoc_step hlt] at hall
      by_cases q1 : 0 < l[k].c.length
      ·have q1' : (0 : Int) < (l[k].c.length : Int) := by omega
       have e1 : l[k].c.isEmpty = false := by rw [isEmpty_len]; exact decide_eq_false (by omega)
       rw [e1, Bool.false_or] at hall
       simp (disch := omega) only [go_sem, e0, e3, hlt', hfl, gk, q1', Int.toNat_natCast]
       refine (rchoices_spec G _ l[k].c hba).mono ?_
       rintro _ H2 ⟨rfl, rfl⟩
       cases q2 : rightCs l[k].c with
       | false =>
        rw [q2, Bool.false_and, Bool.false_and] at hall
        simp (disch := omega) only [go_sem, e0, e3]
        exact DFin.refl ⟨by rw [hall], rfl⟩
       | true =>
        obtain ⟨g0, _⟩ := ch0 q1
        have hfc := flat_len dCh_len l[k].c
        rw [q2, Bool.true_and, firstOthers_at q1] at hall
        by_cases q3 : l[k].c[0].kind = 3
        ·rw [decide_eq_true q3, Bool.not_true, Bool.false_or] at hall
         by_cases q4 : k + 1 = l.length
         ·have q4' : ¬ (k : Int) < (l.length : Int) - 1 := by omega
          rw [decide_eq_true q4, Bool.true_and] at hall
          simp (disch := omega) only [go_sem, e0, e3, g0, hfc, q1', q3, q4', hwl]
          refine ⟨k + 1, _, GhostS.refl _, (hI _ _ _).2 ?_, by omega⟩
          simp (disch := omega) only [go_sem, e0, e3, hwd]
          (repeat' apply And.intro) <;> (try first | rfl | assumption | omega)
         ·have q4' : (k : Int) < (l.length : Int) - 1 := by omega
          rw [decide_eq_false q4, Bool.false_and] at hall
          simp (disch := omega) only [go_sem, e0, e3, g0, hfc, q1', q3, q4', hwl]
          exact DFin.refl ⟨by rw [hall], rfl⟩
        ·rw [decide_eq_false q3, Bool.not_false, Bool.true_or, Bool.true_and] at hall
         simp (disch := omega) only [go_sem, e0, e3, g0, hfc, q1', q3]
         refine ⟨k + 1, _, GhostS.refl _, (hI _ _ _).2 ?_, by omega⟩
         simp (disch := omega) only [go_sem, e0, e3, hwd]
         (repeat' apply And.intro) <;> (try first | rfl | assumption | omega)
      ·have q1' : ¬ (0 : Int) < (l[k].c.length : Int) := by omega
       have e1 : l[k].c.isEmpty = true := by rw [isEmpty_len]; exact decide_eq_true (by omega)
       rw [e1, Bool.true_or, Bool.true_and] at hall
       simp (disch := omega) only [go_sem, e0, e3, hlt', hfl, gk, q1', Int.toNat_natCast]
       refine ⟨k + 1, _, GhostS.refl _, (hI _ _ _).2 ?_, by omega⟩
       simp (disch := omega) only [go_sem, e0, e3, hwd]
       (repeat' apply And.intro) <;> (try first | rfl | assumption | omega)
     ·have : k = l.length := by omega
      subst this
      rw [List.drop_length] at hall
      simp (disch := omega) only [go_sem, e0, e3]
      exact DFin.refl ⟨by rw [hall]; rfl, rfl⟩
theorem plain_ffff {e : Ex} (h : plainE e false false false false = true) : e.oper = 0 ∧ e.n = 0 ∧ e.s = [] ∧ e.a.length = 0 := by
 simpa [plainE, zO, zN, zS, zA, isEmpty_len, and_assoc] using h
theorem plain_ffft {e : Ex} (h : plainE e false false false true = true) : e.oper = 0 ∧ e.n = 0 ∧ e.s = [] := by
 simpa [plainE, zO, zN, zS, zA, isEmpty_len, and_assoc] using h
theorem plain_fftf {e : Ex} (h : plainE e false false true false = true) : e.oper = 0 ∧ e.n = 0 ∧ e.a.length = 0 := by
 simpa [plainE, zO, zN, zS, zA, isEmpty_len, and_assoc] using h
theorem plain_ftff {e : Ex} (h : plainE e false true false false = true) : e.oper = 0 ∧ e.s = [] ∧ e.a.length = 0 := by
 simpa [plainE, zO, zN, zS, zA, isEmpty_len, and_assoc] using h
theorem plain_tfff {e : Ex} (h : plainE e true false false false = true) : e.n = 0 ∧ e.s = [] ∧ e.a.length = 0 := by
 simpa [plainE, zO, zN, zS, zA, isEmpty_len, and_assoc] using h
theorem fields_no1 {e : Ex} (hk : e.kind = 1) (h : plainE e false true false false = false) : fieldsE e = false := by
 cases hf : fieldsE e with
 | false => rfl
 | true =>
  exfalso
  unfold fieldsE at hf
  simp only [hk, reduceIte, Int.reduceEq, or_false, or_true, false_or, true_or, Bool.and_eq_true] at hf
  simp only [plainE, Bool.false_or, Bool.true_or, Bool.true_and, Bool.and_true] at h
  simp [hf] at h
theorem fields_no2 {e : Ex} (hk : e.kind = 2) (h : plainE e false false false false = false) : fieldsE e = false := by
 cases hf : fieldsE e with
 | false => rfl
 | true =>
  exfalso
  unfold fieldsE at hf
  simp only [hk, reduceIte, Int.reduceEq, or_false, or_true, false_or, true_or, Bool.and_eq_true] at hf
  simp only [plainE, Bool.false_or, Bool.true_or, Bool.true_and, Bool.and_true] at h
  simp [hf] at h
theorem fields_no3 {e : Ex} (hk : e.kind = 3) (h : plainE e false false true false = false) : fieldsE e = false := by
 cases hf : fieldsE e with
 | false => rfl
 | true =>
  exfalso
  unfold fieldsE at hf
  simp only [hk, reduceIte, Int.reduceEq, or_false, or_true, false_or, true_or, Bool.and_eq_true] at hf
  simp only [plainE, Bool.false_or, Bool.true_or, Bool.true_and, Bool.and_true] at h
  simp [hf] at h
theorem fields_no4 {e : Ex} (hk : e.kind = 4) (h : plainE e false false true false = false) : fieldsE e = false := by
 cases hf : fieldsE e with
 | false => rfl
 | true =>
  exfalso
  unfold fieldsE at hf
  simp only [hk, reduceIte, Int.reduceEq, or_false, or_true, false_or, true_or, Bool.and_eq_true] at hf
  simp only [plainE, Bool.false_or, Bool.true_or, Bool.true_and, Bool.and_true] at h
  simp [hf] at h
theorem fields_no6 {e : Ex} (hk : e.kind = 6) (h : plainE e false false true false = false) : fieldsE e = false := by
 cases hf : fieldsE e with
 | false => rfl
 | true =>
  exfalso
  unfold fieldsE at hf
  simp only [hk, reduceIte, Int.reduceEq, or_false, or_true, false_or, true_or, Bool.and_eq_true] at hf
  simp only [plainE, Bool.false_or, Bool.true_or, Bool.true_and, Bool.and_true] at h
  simp [hf] at h
theorem fields_no5 {e : Ex} (hk : e.kind = 5) (h : plainE e false false false false = false) : fieldsE e = false := by
 cases hf : fieldsE e with
 | false => rfl
 | true =>
  exfalso
  unfold fieldsE at hf
  simp only [hk, reduceIte, Int.reduceEq, or_false, or_true, false_or, true_or, Bool.and_eq_true] at hf
  simp only [plainE, Bool.false_or, Bool.true_or, Bool.true_and, Bool.and_true] at h
  simp [hf] at h
theorem fields_no7 {e : Ex} (hk : e.kind = 7) (h : plainE e false false false true = false) : fieldsE e = false := by
 cases hf : fieldsE e with
 | false => rfl
 | true =>
  exfalso
  unfold fieldsE at hf
  simp only [hk, reduceIte, Int.reduceEq, or_false, or_true, false_or, true_or, Bool.and_eq_true] at hf
  simp only [plainE, Bool.false_or, Bool.true_or, Bool.true_and, Bool.and_true] at h
  simp [hf] at h
theorem fields_no8 {e : Ex} (hk : e.kind = 8) (h : plainE e false false false false = false) : fieldsE e = false := by
 cases hf : fieldsE e with
 | false => rfl
 | true =>
  exfalso
  unfold fieldsE at hf
  simp only [hk, reduceIte, Int.reduceEq, or_false, or_true, false_or, true_or, Bool.and_eq_true] at hf
  simp only [plainE, Bool.false_or, Bool.true_or, Bool.true_and, Bool.and_true] at h
  simp [hf] at h
theorem fields_no9 {e : Ex} (hk : e.kind = 9) (h : plainE e false false false true = false) : fieldsE e = false := by
 cases hf : fieldsE e with
 | false => rfl
 | true =>
  exfalso
  unfold fieldsE at hf
  simp only [hk, reduceIte, Int.reduceEq, or_false, or_true, false_or, true_or, Bool.and_eq_true] at hf
  simp only [plainE, Bool.false_or, Bool.true_or, Bool.true_and, Bool.and_true] at h
  simp [hf] at h
theorem fields_no10 {e : Ex} (hk : e.kind = 10) (h : plainE e false false false false = false) : fieldsE e = false := by
 cases hf : fieldsE e with
 | false => rfl
 | true =>
  exfalso
  unfold fieldsE at hf
  simp only [hk, reduceIte, Int.reduceEq, or_false, or_true, false_or, true_or, Bool.and_eq_true] at hf
  simp only [plainE, Bool.false_or, Bool.true_or, Bool.true_and, Bool.and_true] at h
  simp [hf] at h
theorem fields_no11 {e : Ex} (hk : e.kind = 11) (h : plainE e true false false false = false) : fieldsE e = false := by
 cases hf : fieldsE e with
 | false => rfl
 | true =>
  exfalso
  unfold fieldsE at hf
  simp only [hk, reduceIte, Int.reduceEq, or_false, or_true, false_or, true_or, Bool.and_eq_true] at hf
  simp only [plainE, Bool.false_or, Bool.true_or, Bool.true_and, Bool.and_true] at h
  simp [hf] at h
theorem fields_no12 {e : Ex} (hk : e.kind = 12) (h : plainE e true false false false = false) : fieldsE e = false := by
 cases hf : fieldsE e with
 | false => rfl
 | true =>
  exfalso
  unfold fieldsE at hf
  simp only [hk, reduceIte, Int.reduceEq, or_false, or_true, false_or, true_or, Bool.and_eq_true] at hf
  simp only [plainE, Bool.false_or, Bool.true_or, Bool.true_and, Bool.and_true] at h
  simp [hf] at h
theorem fields_no13 {e : Ex} (hk : e.kind = 13) (h : plainE e false false false false = false) : fieldsE e = false := by
 cases hf : fieldsE e with
 | false => rfl
 | true =>
  exfalso
  unfold fieldsE at hf
  simp only [hk, reduceIte, Int.reduceEq, or_false, or_true, false_or, true_or, Bool.and_eq_true] at hf
  simp only [plainE, Bool.false_or, Bool.true_or, Bool.true_and, Bool.and_true] at h
  simp [hf] at h
theorem fields_no14 {e : Ex} (hk : e.kind = 14) (h : plainE e false false false false = false) : fieldsE e = false := by
 cases hf : fieldsE e with
 | false => rfl
 | true =>
  exfalso
  unfold fieldsE at hf
  simp only [hk, reduceIte, Int.reduceEq, or_false, or_true, false_or, true_or, Bool.and_eq_true] at hf
  simp only [plainE, Bool.false_or, Bool.true_or, Bool.true_and, Bool.and_true] at h
  simp [hf] at h
set_option maxHeartbeats 4000000 in
theorem rfields_spec (G : Nat → DVal) (H : DHeap) (e : Ex) (hb : bigE e ≤ 1099511627776) : DCalls Tryz.prog G 113 [.agg (dEx e)] H (DRet (.bool (fieldsE e)) H) := by
 have hal := @big_a e
 have hll := @big_l e
 have hfl := flat_len dEx_len e.l
 have hac : ∀ a ∈ e.a, a.c.length ≤ 1099511627776 := fun a ha => by
  have h1 := big_ae ha
  have h2 := bigCs_len a.c
  rw [bigA_eq] at h1; omega
 obtain ⟨nz, hnz⟩ : ∃ nz, nz = namedE (e.l.getD 0 ex0) := ⟨_, rfl⟩
 have nn : ∀ k, namedN e k = (decide (e.l.length = k) && nz) := fun k => by rw [hnz]; rfl
 obtain ⟨form, hform⟩ : ∃ form, form = (decide (0 < e.l.length) && nz) := ⟨_, rfl⟩
 refine dcalls_intro Tryz.func113 Tryz.call113 rfl (by kernel_rfl) ?_
 simp (disch := omega) only [go_sem, DVal.cells]
 intro r1 hr1; dsimp only at hr1
 by_cases hp : 0 < e.l.length
 ·have hp' : (0 : Int) < (e.l.length : Int) := by omega
  have hg := flat_el dEx_len e.l 0 hp
  have hgd : e.l.getD 0 ex0 = e.l[0] := by rw [List.getD, List.getElem?_eq_getElem hp]; rfl
  rw [Nat.zero_mul, List.drop_zero] at hg
  simp (disch := omega) only [go_sem, hp', hg, hfl]
  refine (rnamed_spec G _ e.l[0]).mono ?_
  rintro _ H1 ⟨rfl, rfl⟩
  rw [show namedE e.l[0] = form by rw [hform, decide_eq_true hp, Bool.true_and, hnz, hgd]]
  clear hg hgd
  by_cases k1 : e.kind = 1
  ·skip
   simp (disch := omega) only [go_sem, k1]
   refine (rplain_spec G _ e false true false false).mono ?_
   rintro _ H1 ⟨rfl, rfl⟩
   cases pl : plainE e false true false false with
   | true =>
    have pl2 := plain_ftff pl
    obtain ⟨z1, z3, z4⟩ := pl2
    by_cases clen0 : e.l.length = 0
    ·exfalso; omega
    ·have clen0' : ¬ (e.l.length : Int) = 0 := by omega
     simp (disch := omega) only [go_sem, k1, clen0']
     exact DFin.dropA r1 hr1 (DFin.refl ⟨by simp [fieldsE, zO, zN, zS, zA, isEmpty_len, nn, plainE, k1, z1, z3, z4, clen0], rfl⟩)
   | false =>
    simp (disch := omega) only [go_sem, k1]
    exact DFin.dropA r1 hr1 (DFin.refl ⟨by rw [fields_no1 k1 pl], rfl⟩)
  by_cases k2 : e.kind = 2
  ·skip
   simp (disch := omega) only [go_sem, k2]
   refine (rplain_spec G _ e false false false false).mono ?_
   rintro _ H1 ⟨rfl, rfl⟩
   cases pl : plainE e false false false false with
   | true =>
    have pl2 := plain_ffff pl
    obtain ⟨z1, z2, z3, z4⟩ := pl2
    by_cases clen0 : e.l.length = 0
    ·exfalso; omega
    ·have clen0' : ¬ (e.l.length : Int) = 0 := by omega
     simp (disch := omega) only [go_sem, k2, clen0']
     exact DFin.dropA r1 hr1 (DFin.refl ⟨by simp [fieldsE, zO, zN, zS, zA, isEmpty_len, nn, plainE, k2, z1, z2, z3, z4, clen0], rfl⟩)
   | false =>
    simp (disch := omega) only [go_sem, k2]
    exact DFin.dropA r1 hr1 (DFin.refl ⟨by rw [fields_no2 k2 pl], rfl⟩)
  by_cases k3 : e.kind = 3
  ·skip
   simp (disch := omega) only [go_sem, k3]
   refine (rplain_spec G _ e false false true false).mono ?_
   rintro _ H1 ⟨rfl, rfl⟩
   cases pl : plainE e false false true false with
   | true =>
    have pl2 := plain_fftf pl
    obtain ⟨z1, z2, z4⟩ := pl2
    by_cases clen0 : e.l.length = 0
    ·exfalso; omega
    ·have clen0' : ¬ (e.l.length : Int) = 0 := by omega
     simp (disch := omega) only [go_sem, k3, clen0']
     exact DFin.dropA r1 hr1 (DFin.refl ⟨by simp [fieldsE, zO, zN, zS, zA, isEmpty_len, nn, plainE, k3, z1, z2, z4, clen0], rfl⟩)
   | false =>
    simp (disch := omega) only [go_sem, k3]
    exact DFin.dropA r1 hr1 (DFin.refl ⟨by rw [fields_no3 k3 pl], rfl⟩)
  by_cases k4 : e.kind = 4
  ·skip
   simp (disch := omega) only [go_sem, k4]
   refine (rplain_spec G _ e false false true false).mono ?_
   rintro _ H1 ⟨rfl, rfl⟩
   cases pl : plainE e false false true false with
   | true =>
    have pl2 := plain_fftf pl
    obtain ⟨z1, z2, z4⟩ := pl2
    by_cases clen1 : e.l.length = 1
    ·have clen1' : (e.l.length : Int) = 1 := by omega
     cases hn0 : nz with
     | true =>
      have hfm : form = true := by rw [hform, hn0, Bool.and_true]; exact decide_eq_true (by omega)
      simp (disch := omega) only [go_sem, k4, clen1', hfm]
      refine (rname_spec G _ e.s).mono ?_
      rintro _ H1 ⟨rfl, rfl⟩
      cases vname : nameB e.s with
      | true =>
       simp (disch := omega) only [go_sem, k4, clen1', hfm]
       exact DFin.dropA r1 hr1 (DFin.refl ⟨by simp [fieldsE, zO, zN, zS, zA, isEmpty_len, nn, plainE, k4, z1, z2, z4, clen1, hn0, vname], rfl⟩)
      | false =>
       simp (disch := omega) only [go_sem, k4, clen1', hfm]
       exact DFin.dropA r1 hr1 (DFin.refl ⟨by simp [fieldsE, zO, zN, zS, zA, isEmpty_len, nn, plainE, k4, z1, z2, z4, clen1, hn0, vname], rfl⟩)
     | false =>
      have hfm : form = false := by rw [hform, hn0, Bool.and_false]
      simp (disch := omega) only [go_sem, k4, clen1', hfm]
      exact DFin.dropA r1 hr1 (DFin.refl ⟨by simp [fieldsE, zO, zN, zS, zA, isEmpty_len, nn, plainE, k4, z1, z2, z4, clen1, hn0], rfl⟩)
    ·have clen1' : ¬ (e.l.length : Int) = 1 := by omega
     simp (disch := omega) only [go_sem, k4, clen1']
     exact DFin.dropA r1 hr1 (DFin.refl ⟨by simp [fieldsE, zO, zN, zS, zA, isEmpty_len, nn, plainE, k4, z1, z2, z4, clen1], rfl⟩)
   | false =>
    simp (disch := omega) only [go_sem, k4]
    exact DFin.dropA r1 hr1 (DFin.refl ⟨by rw [fields_no4 k4 pl], rfl⟩)
  by_cases k6 : e.kind = 6
  ·skip
   simp (disch := omega) only [go_sem, k6]
   refine (rplain_spec G _ e false false true false).mono ?_
   rintro _ H1 ⟨rfl, rfl⟩
   cases pl : plainE e false false true false with
   | true =>
    have pl2 := plain_fftf pl
    obtain ⟨z1, z2, z4⟩ := pl2
    by_cases clen1 : e.l.length = 1
    ·have clen1' : (e.l.length : Int) = 1 := by omega
     cases hn0 : nz with
     | true =>
      have hfm : form = true := by rw [hform, hn0, Bool.and_true]; exact decide_eq_true (by omega)
      simp (disch := omega) only [go_sem, k6, clen1', hfm]
      refine (rname_spec G _ e.s).mono ?_
      rintro _ H1 ⟨rfl, rfl⟩
      cases vname : nameB e.s with
      | true =>
       simp (disch := omega) only [go_sem, k6, clen1', hfm]
       exact DFin.dropA r1 hr1 (DFin.refl ⟨by simp [fieldsE, zO, zN, zS, zA, isEmpty_len, nn, plainE, k6, z1, z2, z4, clen1, hn0, vname], rfl⟩)
      | false =>
       simp (disch := omega) only [go_sem, k6, clen1', hfm]
       exact DFin.dropA r1 hr1 (DFin.refl ⟨by simp [fieldsE, zO, zN, zS, zA, isEmpty_len, nn, plainE, k6, z1, z2, z4, clen1, hn0, vname], rfl⟩)
     | false =>
      have hfm : form = false := by rw [hform, hn0, Bool.and_false]
      simp (disch := omega) only [go_sem, k6, clen1', hfm]
      exact DFin.dropA r1 hr1 (DFin.refl ⟨by simp [fieldsE, zO, zN, zS, zA, isEmpty_len, nn, plainE, k6, z1, z2, z4, clen1, hn0], rfl⟩)
    ·have clen1' : ¬ (e.l.length : Int) = 1 := by omega
     simp (disch := omega) only [go_sem, k6, clen1']
     exact DFin.dropA r1 hr1 (DFin.refl ⟨by simp [fieldsE, zO, zN, zS, zA, isEmpty_len, nn, plainE, k6, z1, z2, z4, clen1], rfl⟩)
   | false =>
    simp (disch := omega) only [go_sem, k6]
    exact DFin.dropA r1 hr1 (DFin.refl ⟨by rw [fields_no6 k6 pl], rfl⟩)
  by_cases k5 : e.kind = 5
  ·skip
   simp (disch := omega) only [go_sem, k5]
   refine (rplain_spec G _ e false false false false).mono ?_
   rintro _ H1 ⟨rfl, rfl⟩
   cases pl : plainE e false false false false with
   | true =>
    have pl2 := plain_ffff pl
    obtain ⟨z1, z2, z3, z4⟩ := pl2
    by_cases clen1 : e.l.length = 1
    ·have clen1' : (e.l.length : Int) = 1 := by omega
     cases hn0 : nz with
     | true =>
      have hfm : form = true := by rw [hform, hn0, Bool.and_true]; exact decide_eq_true (by omega)
      simp (disch := omega) only [go_sem, k5, clen1', hfm]
      exact DFin.dropA r1 hr1 (DFin.refl ⟨by simp [fieldsE, zO, zN, zS, zA, isEmpty_len, nn, plainE, k5, z1, z2, z3, z4, clen1, hn0], rfl⟩)
     | false =>
      have hfm : form = false := by rw [hform, hn0, Bool.and_false]
      simp (disch := omega) only [go_sem, k5, clen1', hfm]
      exact DFin.dropA r1 hr1 (DFin.refl ⟨by simp [fieldsE, zO, zN, zS, zA, isEmpty_len, nn, plainE, k5, z1, z2, z3, z4, clen1, hn0], rfl⟩)
    ·have clen1' : ¬ (e.l.length : Int) = 1 := by omega
     simp (disch := omega) only [go_sem, k5, clen1']
     exact DFin.dropA r1 hr1 (DFin.refl ⟨by simp [fieldsE, zO, zN, zS, zA, isEmpty_len, nn, plainE, k5, z1, z2, z3, z4, clen1], rfl⟩)
   | false =>
    simp (disch := omega) only [go_sem, k5]
    exact DFin.dropA r1 hr1 (DFin.refl ⟨by rw [fields_no5 k5 pl], rfl⟩)
  by_cases k7 : e.kind = 7
  ·skip
   simp (disch := omega) only [go_sem, k7]
   refine (rplain_spec G _ e false false false true).mono ?_
   rintro _ H1 ⟨rfl, rfl⟩
   cases pl : plainE e false false false true with
   | true =>
    have pl2 := plain_ffft pl
    obtain ⟨z1, z2, z3⟩ := pl2
    by_cases clen1 : e.l.length = 1
    ·have clen1' : (e.l.length : Int) = 1 := by omega
     cases hn0 : nz with
     | true =>
      have hfm : form = true := by rw [hform, hn0, Bool.and_true]; exact decide_eq_true (by omega)
      simp (disch := omega) only [go_sem, k7, clen1', hfm]
      refine (rarguments_spec G _ e.a (by omega)).mono ?_
      rintro _ H1 ⟨rfl, rfl⟩
      cases vargs : argsOk e.a with
      | true =>
       simp (disch := omega) only [go_sem, k7, clen1', hfm]
       exact DFin.dropA r1 hr1 (DFin.refl ⟨by simp [fieldsE, zO, zN, zS, zA, isEmpty_len, nn, plainE, k7, z1, z2, z3, clen1, hn0, vargs], rfl⟩)
      | false =>
       simp (disch := omega) only [go_sem, k7, clen1', hfm]
       exact DFin.dropA r1 hr1 (DFin.refl ⟨by simp [fieldsE, zO, zN, zS, zA, isEmpty_len, nn, plainE, k7, z1, z2, z3, clen1, hn0, vargs], rfl⟩)
     | false =>
      have hfm : form = false := by rw [hform, hn0, Bool.and_false]
      simp (disch := omega) only [go_sem, k7, clen1', hfm]
      exact DFin.dropA r1 hr1 (DFin.refl ⟨by simp [fieldsE, zO, zN, zS, zA, isEmpty_len, nn, plainE, k7, z1, z2, z3, clen1, hn0], rfl⟩)
    ·have clen1' : ¬ (e.l.length : Int) = 1 := by omega
     simp (disch := omega) only [go_sem, k7, clen1']
     exact DFin.dropA r1 hr1 (DFin.refl ⟨by simp [fieldsE, zO, zN, zS, zA, isEmpty_len, nn, plainE, k7, z1, z2, z3, clen1], rfl⟩)
   | false =>
    simp (disch := omega) only [go_sem, k7]
    exact DFin.dropA r1 hr1 (DFin.refl ⟨by rw [fields_no7 k7 pl], rfl⟩)
  by_cases k8 : e.kind = 8
  ·skip
   simp (disch := omega) only [go_sem, k8]
   refine (rplain_spec G _ e false false false false).mono ?_
   rintro _ H1 ⟨rfl, rfl⟩
   cases pl : plainE e false false false false with
   | true =>
    have pl2 := plain_ffff pl
    obtain ⟨z1, z2, z3, z4⟩ := pl2
    by_cases clen2 : e.l.length = 2
    ·have clen2' : (e.l.length : Int) = 2 := by omega
     cases hn0 : nz with
     | true =>
      have hfm : form = true := by rw [hform, hn0, Bool.and_true]; exact decide_eq_true (by omega)
      simp (disch := omega) only [go_sem, k8, clen2', hfm]
      exact DFin.dropA r1 hr1 (DFin.refl ⟨by simp [fieldsE, zO, zN, zS, zA, isEmpty_len, nn, plainE, k8, z1, z2, z3, z4, clen2, hn0], rfl⟩)
     | false =>
      have hfm : form = false := by rw [hform, hn0, Bool.and_false]
      simp (disch := omega) only [go_sem, k8, clen2', hfm]
      exact DFin.dropA r1 hr1 (DFin.refl ⟨by simp [fieldsE, zO, zN, zS, zA, isEmpty_len, nn, plainE, k8, z1, z2, z3, z4, clen2, hn0], rfl⟩)
    ·have clen2' : ¬ (e.l.length : Int) = 2 := by omega
     simp (disch := omega) only [go_sem, k8, clen2']
     exact DFin.dropA r1 hr1 (DFin.refl ⟨by simp [fieldsE, zO, zN, zS, zA, isEmpty_len, nn, plainE, k8, z1, z2, z3, z4, clen2], rfl⟩)
   | false =>
    simp (disch := omega) only [go_sem, k8]
    exact DFin.dropA r1 hr1 (DFin.refl ⟨by rw [fields_no8 k8 pl], rfl⟩)
  by_cases k9 : e.kind = 9
  ·skip
   simp (disch := omega) only [go_sem, k9]
   refine (rplain_spec G _ e false false false true).mono ?_
   rintro _ H1 ⟨rfl, rfl⟩
   cases pl : plainE e false false false true with
   | true =>
    have pl2 := plain_ffft pl
    obtain ⟨z1, z2, z3⟩ := pl2
    by_cases clen0 : e.l.length = 0
    ·exfalso; omega
    ·have clen0' : ¬ (e.l.length : Int) = 0 := by omega
     simp (disch := omega) only [go_sem, k9, clen0']
     exact DFin.dropA r1 hr1 (DFin.refl ⟨by simp [fieldsE, zO, zN, zS, zA, isEmpty_len, nn, plainE, k9, z1, z2, z3, clen0], rfl⟩)
   | false =>
    simp (disch := omega) only [go_sem, k9]
    exact DFin.dropA r1 hr1 (DFin.refl ⟨by rw [fields_no9 k9 pl], rfl⟩)
  by_cases k10 : e.kind = 10
  ·skip
   simp (disch := omega) only [go_sem, k10]
   refine (rplain_spec G _ e false false false false).mono ?_
   rintro _ H1 ⟨rfl, rfl⟩
   cases pl : plainE e false false false false with
   | true =>
    have pl2 := plain_ffff pl
    obtain ⟨z1, z2, z3, z4⟩ := pl2
    by_cases clen3 : e.l.length = 3
    ·have clen3' : (e.l.length : Int) = 3 := by omega
     simp (disch := omega) only [go_sem, k10, clen3']
     exact DFin.dropA r1 hr1 (DFin.refl ⟨by simp [fieldsE, zO, zN, zS, zA, isEmpty_len, nn, plainE, k10, z1, z2, z3, z4, clen3], rfl⟩)
    ·have clen3' : ¬ (e.l.length : Int) = 3 := by omega
     simp (disch := omega) only [go_sem, k10, clen3']
     exact DFin.dropA r1 hr1 (DFin.refl ⟨by simp [fieldsE, zO, zN, zS, zA, isEmpty_len, nn, plainE, k10, z1, z2, z3, z4, clen3], rfl⟩)
   | false =>
    simp (disch := omega) only [go_sem, k10]
    exact DFin.dropA r1 hr1 (DFin.refl ⟨by rw [fields_no10 k10 pl], rfl⟩)
  by_cases k11 : e.kind = 11
  ·skip
   simp (disch := omega) only [go_sem, k11]
   refine (rplain_spec G _ e true false false false).mono ?_
   rintro _ H1 ⟨rfl, rfl⟩
   cases pl : plainE e true false false false with
   | true =>
    have pl2 := plain_tfff pl
    obtain ⟨z2, z3, z4⟩ := pl2
    by_cases clen1 : e.l.length = 1
    ·have clen1' : (e.l.length : Int) = 1 := by omega
     simp (disch := omega) only [go_sem, k11, clen1']
     refine (rmonadic_spec G _ e.oper).mono ?_
     rintro _ H1 ⟨rfl, rfl⟩
     by_cases ca : 18 ≤ e.oper
     ·by_cases cb : e.oper ≤ 21
      ·skip
       simp (disch := omega) only [go_sem, k11, clen1', ca, cb]
       exact DFin.dropA r1 hr1 (DFin.refl ⟨by simp [fieldsE, zO, zN, zS, zA, isEmpty_len, nn, plainE, k11, z2, z3, z4, clen1, ca, cb], rfl⟩)
      ·skip
       simp (disch := omega) only [go_sem, k11, clen1', ca, cb]
       exact DFin.dropA r1 hr1 (DFin.refl ⟨by simp [fieldsE, zO, zN, zS, zA, isEmpty_len, nn, plainE, k11, z2, z3, z4, clen1, ca, cb], rfl⟩)
     ·skip
      simp (disch := omega) only [go_sem, k11, clen1', ca]
      exact DFin.dropA r1 hr1 (DFin.refl ⟨by simp [fieldsE, zO, zN, zS, zA, isEmpty_len, nn, plainE, k11, z2, z3, z4, clen1, ca], rfl⟩)
    ·have clen1' : ¬ (e.l.length : Int) = 1 := by omega
     simp (disch := omega) only [go_sem, k11, clen1']
     exact DFin.dropA r1 hr1 (DFin.refl ⟨by simp [fieldsE, zO, zN, zS, zA, isEmpty_len, nn, plainE, k11, z2, z3, z4, clen1], rfl⟩)
   | false =>
    simp (disch := omega) only [go_sem, k11]
    exact DFin.dropA r1 hr1 (DFin.refl ⟨by rw [fields_no11 k11 pl], rfl⟩)
  by_cases k12 : e.kind = 12
  ·skip
   simp (disch := omega) only [go_sem, k12]
   refine (rplain_spec G _ e true false false false).mono ?_
   rintro _ H1 ⟨rfl, rfl⟩
   cases pl : plainE e true false false false with
   | true =>
    have pl2 := plain_tfff pl
    obtain ⟨z2, z3, z4⟩ := pl2
    by_cases clen2 : e.l.length = 2
    ·have clen2' : (e.l.length : Int) = 2 := by omega
     simp (disch := omega) only [go_sem, k12, clen2']
     refine (rdyadic_spec G _ e.oper).mono ?_
     rintro _ H1 ⟨rfl, rfl⟩
     by_cases ca : 1 ≤ e.oper
     ·by_cases cb : e.oper ≤ 17
      ·skip
       simp (disch := omega) only [go_sem, k12, clen2', ca, cb]
       exact DFin.dropA r1 hr1 (DFin.refl ⟨by simp [fieldsE, zO, zN, zS, zA, isEmpty_len, nn, plainE, k12, z2, z3, z4, clen2, ca, cb], rfl⟩)
      ·skip
       simp (disch := omega) only [go_sem, k12, clen2', ca, cb]
       exact DFin.dropA r1 hr1 (DFin.refl ⟨by simp [fieldsE, zO, zN, zS, zA, isEmpty_len, nn, plainE, k12, z2, z3, z4, clen2, ca, cb], rfl⟩)
     ·skip
      simp (disch := omega) only [go_sem, k12, clen2', ca]
      exact DFin.dropA r1 hr1 (DFin.refl ⟨by simp [fieldsE, zO, zN, zS, zA, isEmpty_len, nn, plainE, k12, z2, z3, z4, clen2, ca], rfl⟩)
    ·have clen2' : ¬ (e.l.length : Int) = 2 := by omega
     simp (disch := omega) only [go_sem, k12, clen2']
     exact DFin.dropA r1 hr1 (DFin.refl ⟨by simp [fieldsE, zO, zN, zS, zA, isEmpty_len, nn, plainE, k12, z2, z3, z4, clen2], rfl⟩)
   | false =>
    simp (disch := omega) only [go_sem, k12]
    exact DFin.dropA r1 hr1 (DFin.refl ⟨by rw [fields_no12 k12 pl], rfl⟩)
  by_cases k13 : e.kind = 13
  ·skip
   simp (disch := omega) only [go_sem, k13]
   refine (rplain_spec G _ e false false false false).mono ?_
   rintro _ H1 ⟨rfl, rfl⟩
   cases pl : plainE e false false false false with
   | true =>
    have pl2 := plain_ffff pl
    obtain ⟨z1, z2, z3, z4⟩ := pl2
    by_cases c2 : e.l.length = 2
    ·have c2' : (e.l.length : Int) = 2 := by omega
     have c3' : ¬ (e.l.length : Int) = 3 := by omega
     have c3 : ¬ e.l.length = 3 := by omega
     have hp1 : 1 < e.l.length := by omega
     have hg1 := flat_el dEx_len e.l 1 hp1
     have hgd1 : e.l.getD 1 ex0 = e.l[1] := by rw [List.getD, List.getElem?_eq_getElem hp1]; rfl
     rw [Nat.one_mul] at hg1
     simp (disch := omega) only [go_sem, k13, c2', hg1, hfl]
     refine (rnamed_spec G _ e.l[1]).mono ?_
     rintro _ H1 ⟨rfl, rfl⟩
     cases ct : namedE e.l[1] with
     | true =>
      simp (disch := omega) only [go_sem, k13, c2']
      exact DFin.dropA r1 hr1 (DFin.refl ⟨by simp [fieldsE, zO, zN, zS, zA, isEmpty_len, nn, plainE, k13, z1, z2, z3, z4, c3, c2, hgd1, ct], rfl⟩)
     | false =>
      simp (disch := omega) only [go_sem, k13, c2', c3']
      exact DFin.dropA r1 hr1 (DFin.refl ⟨by simp [fieldsE, zO, zN, zS, zA, isEmpty_len, nn, plainE, k13, z1, z2, z3, z4, c3, c2, hgd1, ct], rfl⟩)
    ·have c2' : ¬ (e.l.length : Int) = 2 := by omega
     by_cases c3 : e.l.length = 3
     ·have c3' : (e.l.length : Int) = 3 := by omega
      simp (disch := omega) only [go_sem, k13, c2', c3']
      exact DFin.dropA r1 hr1 (DFin.refl ⟨by simp [fieldsE, zO, zN, zS, zA, isEmpty_len, nn, plainE, k13, z1, z2, z3, z4, c2, c3], rfl⟩)
     ·have c3' : ¬ (e.l.length : Int) = 3 := by omega
      simp (disch := omega) only [go_sem, k13, c2', c3']
      exact DFin.dropA r1 hr1 (DFin.refl ⟨by simp [fieldsE, zO, zN, zS, zA, isEmpty_len, nn, plainE, k13, z1, z2, z3, z4, c2, c3], rfl⟩)
   | false =>
    simp (disch := omega) only [go_sem, k13]
    exact DFin.dropA r1 hr1 (DFin.refl ⟨by rw [fields_no13 k13 pl], rfl⟩)
  by_cases k14 : e.kind = 14
  ·skip
   simp (disch := omega) only [go_sem, k14]
   refine (rplain_spec G _ e false false false false).mono ?_
   rintro _ H1 ⟨rfl, rfl⟩
   cases pl : plainE e false false false false with
   | true =>
    have pl2 := plain_ffff pl
    obtain ⟨z1, z2, z3, z4⟩ := pl2
    by_cases c2 : e.l.length = 2
    ·have c2' : (e.l.length : Int) = 2 := by omega
     have c3' : ¬ (e.l.length : Int) = 3 := by omega
     have c3 : ¬ e.l.length = 3 := by omega
     have hp1 : 1 < e.l.length := by omega
     have hg1 := flat_el dEx_len e.l 1 hp1
     have hgd1 : e.l.getD 1 ex0 = e.l[1] := by rw [List.getD, List.getElem?_eq_getElem hp1]; rfl
     rw [Nat.one_mul] at hg1
     simp (disch := omega) only [go_sem, k14, c2', hg1, hfl]
     refine (rnamed_spec G _ e.l[1]).mono ?_
     rintro _ H1 ⟨rfl, rfl⟩
     cases ct : namedE e.l[1] with
     | true =>
      simp (disch := omega) only [go_sem, k14, c2']
      exact DFin.dropA r1 hr1 (DFin.refl ⟨by simp [fieldsE, zO, zN, zS, zA, isEmpty_len, nn, plainE, k14, z1, z2, z3, z4, c3, c2, hgd1, ct], rfl⟩)
     | false =>
      simp (disch := omega) only [go_sem, k14, c2', c3']
      exact DFin.dropA r1 hr1 (DFin.refl ⟨by simp [fieldsE, zO, zN, zS, zA, isEmpty_len, nn, plainE, k14, z1, z2, z3, z4, c3, c2, hgd1, ct], rfl⟩)
    ·have c2' : ¬ (e.l.length : Int) = 2 := by omega
     by_cases c3 : e.l.length = 3
     ·have c3' : (e.l.length : Int) = 3 := by omega
      simp (disch := omega) only [go_sem, k14, c2', c3']
      exact DFin.dropA r1 hr1 (DFin.refl ⟨by simp [fieldsE, zO, zN, zS, zA, isEmpty_len, nn, plainE, k14, z1, z2, z3, z4, c2, c3], rfl⟩)
     ·have c3' : ¬ (e.l.length : Int) = 3 := by omega
      simp (disch := omega) only [go_sem, k14, c2', c3']
      exact DFin.dropA r1 hr1 (DFin.refl ⟨by simp [fieldsE, zO, zN, zS, zA, isEmpty_len, nn, plainE, k14, z1, z2, z3, z4, c2, c3], rfl⟩)
   | false =>
    simp (disch := omega) only [go_sem, k14]
    exact DFin.dropA r1 hr1 (DFin.refl ⟨by rw [fields_no14 k14 pl], rfl⟩)
  simp (disch := omega) only [go_sem, k1, k2, k3, k4, k6, k5, k7, k8, k9, k10, k11, k12, k13, k14]
  exact DFin.dropA r1 hr1 (DFin.refl ⟨by simp [fieldsE, k1, k2, k3, k4, k6, k5, k7, k8, k9, k10, k11, k12, k13, k14], rfl⟩)
 ·have hp' : ¬ (0 : Int) < (e.l.length : Int) := by omega
  have hfm0 : form = false := by rw [hform, decide_eq_false hp, Bool.false_and]
  simp (disch := omega) only [go_sem, hp']
  by_cases k1 : e.kind = 1
  ·skip
   simp (disch := omega) only [go_sem, k1]
   refine (rplain_spec G _ e false true false false).mono ?_
   rintro _ H1 ⟨rfl, rfl⟩
   cases pl : plainE e false true false false with
   | true =>
    have pl2 := plain_ftff pl
    obtain ⟨z1, z3, z4⟩ := pl2
    by_cases clen0 : e.l.length = 0
    ·have clen0' : (e.l.length : Int) = 0 := by omega
     by_cases ca : 0 ≤ e.n
     ·by_cases cb : e.n ≤ 2147483647
      ·skip
       simp (disch := omega) only [go_sem, k1, clen0', ca, cb]
       exact DFin.dropA r1 hr1 (DFin.refl ⟨by simp [fieldsE, zO, zN, zS, zA, isEmpty_len, nn, plainE, k1, z1, z3, z4, clen0, ca, cb], rfl⟩)
      ·skip
       simp (disch := omega) only [go_sem, k1, clen0', ca, cb]
       exact DFin.dropA r1 hr1 (DFin.refl ⟨by simp [fieldsE, zO, zN, zS, zA, isEmpty_len, nn, plainE, k1, z1, z3, z4, clen0, ca, cb], rfl⟩)
     ·skip
      simp (disch := omega) only [go_sem, k1, clen0', ca]
      exact DFin.dropA r1 hr1 (DFin.refl ⟨by simp [fieldsE, zO, zN, zS, zA, isEmpty_len, nn, plainE, k1, z1, z3, z4, clen0, ca], rfl⟩)
    ·exfalso; omega
   | false =>
    simp (disch := omega) only [go_sem, k1]
    exact DFin.dropA r1 hr1 (DFin.refl ⟨by rw [fields_no1 k1 pl], rfl⟩)
  by_cases k2 : e.kind = 2
  ·skip
   simp (disch := omega) only [go_sem, k2]
   refine (rplain_spec G _ e false false false false).mono ?_
   rintro _ H1 ⟨rfl, rfl⟩
   cases pl : plainE e false false false false with
   | true =>
    have pl2 := plain_ffff pl
    obtain ⟨z1, z2, z3, z4⟩ := pl2
    by_cases clen0 : e.l.length = 0
    ·have clen0' : (e.l.length : Int) = 0 := by omega
     simp (disch := omega) only [go_sem, k2, clen0']
     exact DFin.dropA r1 hr1 (DFin.refl ⟨by simp [fieldsE, zO, zN, zS, zA, isEmpty_len, nn, plainE, k2, z1, z2, z3, z4, clen0], rfl⟩)
    ·exfalso; omega
   | false =>
    simp (disch := omega) only [go_sem, k2]
    exact DFin.dropA r1 hr1 (DFin.refl ⟨by rw [fields_no2 k2 pl], rfl⟩)
  by_cases k3 : e.kind = 3
  ·skip
   simp (disch := omega) only [go_sem, k3]
   refine (rplain_spec G _ e false false true false).mono ?_
   rintro _ H1 ⟨rfl, rfl⟩
   cases pl : plainE e false false true false with
   | true =>
    have pl2 := plain_fftf pl
    obtain ⟨z1, z2, z4⟩ := pl2
    by_cases clen0 : e.l.length = 0
    ·have clen0' : (e.l.length : Int) = 0 := by omega
     simp (disch := omega) only [go_sem, k3, clen0']
     refine (rname_spec G _ e.s).mono ?_
     rintro _ H1 ⟨rfl, rfl⟩
     cases vname : nameB e.s with
     | true =>
      simp (disch := omega) only [go_sem, k3, clen0']
      exact DFin.dropA r1 hr1 (DFin.refl ⟨by simp [fieldsE, zO, zN, zS, zA, isEmpty_len, nn, plainE, k3, z1, z2, z4, clen0, vname], rfl⟩)
     | false =>
      simp (disch := omega) only [go_sem, k3, clen0']
      exact DFin.dropA r1 hr1 (DFin.refl ⟨by simp [fieldsE, zO, zN, zS, zA, isEmpty_len, nn, plainE, k3, z1, z2, z4, clen0, vname], rfl⟩)
    ·exfalso; omega
   | false =>
    simp (disch := omega) only [go_sem, k3]
    exact DFin.dropA r1 hr1 (DFin.refl ⟨by rw [fields_no3 k3 pl], rfl⟩)
  by_cases k4 : e.kind = 4
  ·skip
   simp (disch := omega) only [go_sem, k4]
   refine (rplain_spec G _ e false false true false).mono ?_
   rintro _ H1 ⟨rfl, rfl⟩
   cases pl : plainE e false false true false with
   | true =>
    have pl2 := plain_fftf pl
    obtain ⟨z1, z2, z4⟩ := pl2
    by_cases clen1 : e.l.length = 1
    ·exfalso; omega
    ·have clen1' : ¬ (e.l.length : Int) = 1 := by omega
     simp (disch := omega) only [go_sem, k4, clen1']
     exact DFin.dropA r1 hr1 (DFin.refl ⟨by simp [fieldsE, zO, zN, zS, zA, isEmpty_len, nn, plainE, k4, z1, z2, z4, clen1], rfl⟩)
   | false =>
    simp (disch := omega) only [go_sem, k4]
    exact DFin.dropA r1 hr1 (DFin.refl ⟨by rw [fields_no4 k4 pl], rfl⟩)
  by_cases k6 : e.kind = 6
  ·skip
   simp (disch := omega) only [go_sem, k6]
   refine (rplain_spec G _ e false false true false).mono ?_
   rintro _ H1 ⟨rfl, rfl⟩
   cases pl : plainE e false false true false with
   | true =>
    have pl2 := plain_fftf pl
    obtain ⟨z1, z2, z4⟩ := pl2
    by_cases clen1 : e.l.length = 1
    ·exfalso; omega
    ·have clen1' : ¬ (e.l.length : Int) = 1 := by omega
     simp (disch := omega) only [go_sem, k6, clen1']
     exact DFin.dropA r1 hr1 (DFin.refl ⟨by simp [fieldsE, zO, zN, zS, zA, isEmpty_len, nn, plainE, k6, z1, z2, z4, clen1], rfl⟩)
   | false =>
    simp (disch := omega) only [go_sem, k6]
    exact DFin.dropA r1 hr1 (DFin.refl ⟨by rw [fields_no6 k6 pl], rfl⟩)
  by_cases k5 : e.kind = 5
  ·skip
   simp (disch := omega) only [go_sem, k5]
   refine (rplain_spec G _ e false false false false).mono ?_
   rintro _ H1 ⟨rfl, rfl⟩
   cases pl : plainE e false false false false with
   | true =>
    have pl2 := plain_ffff pl
    obtain ⟨z1, z2, z3, z4⟩ := pl2
    by_cases clen1 : e.l.length = 1
    ·exfalso; omega
    ·have clen1' : ¬ (e.l.length : Int) = 1 := by omega
     simp (disch := omega) only [go_sem, k5, clen1']
     exact DFin.dropA r1 hr1 (DFin.refl ⟨by simp [fieldsE, zO, zN, zS, zA, isEmpty_len, nn, plainE, k5, z1, z2, z3, z4, clen1], rfl⟩)
   | false =>
    simp (disch := omega) only [go_sem, k5]
    exact DFin.dropA r1 hr1 (DFin.refl ⟨by rw [fields_no5 k5 pl], rfl⟩)
  by_cases k7 : e.kind = 7
  ·skip
   simp (disch := omega) only [go_sem, k7]
   refine (rplain_spec G _ e false false false true).mono ?_
   rintro _ H1 ⟨rfl, rfl⟩
   cases pl : plainE e false false false true with
   | true =>
    have pl2 := plain_ffft pl
    obtain ⟨z1, z2, z3⟩ := pl2
    by_cases clen1 : e.l.length = 1
    ·exfalso; omega
    ·have clen1' : ¬ (e.l.length : Int) = 1 := by omega
     simp (disch := omega) only [go_sem, k7, clen1']
     exact DFin.dropA r1 hr1 (DFin.refl ⟨by simp [fieldsE, zO, zN, zS, zA, isEmpty_len, nn, plainE, k7, z1, z2, z3, clen1], rfl⟩)
   | false =>
    simp (disch := omega) only [go_sem, k7]
    exact DFin.dropA r1 hr1 (DFin.refl ⟨by rw [fields_no7 k7 pl], rfl⟩)
  by_cases k8 : e.kind = 8
  ·skip
   simp (disch := omega) only [go_sem, k8]
   refine (rplain_spec G _ e false false false false).mono ?_
   rintro _ H1 ⟨rfl, rfl⟩
   cases pl : plainE e false false false false with
   | true =>
    have pl2 := plain_ffff pl
    obtain ⟨z1, z2, z3, z4⟩ := pl2
    by_cases clen2 : e.l.length = 2
    ·exfalso; omega
    ·have clen2' : ¬ (e.l.length : Int) = 2 := by omega
     simp (disch := omega) only [go_sem, k8, clen2']
     exact DFin.dropA r1 hr1 (DFin.refl ⟨by simp [fieldsE, zO, zN, zS, zA, isEmpty_len, nn, plainE, k8, z1, z2, z3, z4, clen2], rfl⟩)
   | false =>
    simp (disch := omega) only [go_sem, k8]
    exact DFin.dropA r1 hr1 (DFin.refl ⟨by rw [fields_no8 k8 pl], rfl⟩)
  by_cases k9 : e.kind = 9
  ·skip
   simp (disch := omega) only [go_sem, k9]
   refine (rplain_spec G _ e false false false true).mono ?_
   rintro _ H1 ⟨rfl, rfl⟩
   cases pl : plainE e false false false true with
   | true =>
    have pl2 := plain_ffft pl
    obtain ⟨z1, z2, z3⟩ := pl2
    by_cases clen0 : e.l.length = 0
    ·have clen0' : (e.l.length : Int) = 0 := by omega
     simp (disch := omega) only [go_sem, k9, clen0']
     refine (rassociations_spec G _ e.a (by omega) hac).mono ?_
     rintro _ H1 ⟨rfl, rfl⟩
     cases vassocs : assocsOk e.a with
     | true =>
      simp (disch := omega) only [go_sem, k9, clen0']
      exact DFin.dropA r1 hr1 (DFin.refl ⟨by simp [fieldsE, zO, zN, zS, zA, isEmpty_len, nn, plainE, k9, z1, z2, z3, clen0, vassocs], rfl⟩)
     | false =>
      simp (disch := omega) only [go_sem, k9, clen0']
      exact DFin.dropA r1 hr1 (DFin.refl ⟨by simp [fieldsE, zO, zN, zS, zA, isEmpty_len, nn, plainE, k9, z1, z2, z3, clen0, vassocs], rfl⟩)
    ·exfalso; omega
   | false =>
    simp (disch := omega) only [go_sem, k9]
    exact DFin.dropA r1 hr1 (DFin.refl ⟨by rw [fields_no9 k9 pl], rfl⟩)
  by_cases k10 : e.kind = 10
  ·skip
   simp (disch := omega) only [go_sem, k10]
   refine (rplain_spec G _ e false false false false).mono ?_
   rintro _ H1 ⟨rfl, rfl⟩
   cases pl : plainE e false false false false with
   | true =>
    have pl2 := plain_ffff pl
    obtain ⟨z1, z2, z3, z4⟩ := pl2
    by_cases clen3 : e.l.length = 3
    ·exfalso; omega
    ·have clen3' : ¬ (e.l.length : Int) = 3 := by omega
     simp (disch := omega) only [go_sem, k10, clen3']
     exact DFin.dropA r1 hr1 (DFin.refl ⟨by simp [fieldsE, zO, zN, zS, zA, isEmpty_len, nn, plainE, k10, z1, z2, z3, z4, clen3], rfl⟩)
   | false =>
    simp (disch := omega) only [go_sem, k10]
    exact DFin.dropA r1 hr1 (DFin.refl ⟨by rw [fields_no10 k10 pl], rfl⟩)
  by_cases k11 : e.kind = 11
  ·skip
   simp (disch := omega) only [go_sem, k11]
   refine (rplain_spec G _ e true false false false).mono ?_
   rintro _ H1 ⟨rfl, rfl⟩
   cases pl : plainE e true false false false with
   | true =>
    have pl2 := plain_tfff pl
    obtain ⟨z2, z3, z4⟩ := pl2
    by_cases clen1 : e.l.length = 1
    ·exfalso; omega
    ·have clen1' : ¬ (e.l.length : Int) = 1 := by omega
     simp (disch := omega) only [go_sem, k11, clen1']
     exact DFin.dropA r1 hr1 (DFin.refl ⟨by simp [fieldsE, zO, zN, zS, zA, isEmpty_len, nn, plainE, k11, z2, z3, z4, clen1], rfl⟩)
   | false =>
    simp (disch := omega) only [go_sem, k11]
    exact DFin.dropA r1 hr1 (DFin.refl ⟨by rw [fields_no11 k11 pl], rfl⟩)
  by_cases k12 : e.kind = 12
  ·skip
   simp (disch := omega) only [go_sem, k12]
   refine (rplain_spec G _ e true false false false).mono ?_
   rintro _ H1 ⟨rfl, rfl⟩
   cases pl : plainE e true false false false with
   | true =>
    have pl2 := plain_tfff pl
    obtain ⟨z2, z3, z4⟩ := pl2
    by_cases clen2 : e.l.length = 2
    ·exfalso; omega
    ·have clen2' : ¬ (e.l.length : Int) = 2 := by omega
     simp (disch := omega) only [go_sem, k12, clen2']
     exact DFin.dropA r1 hr1 (DFin.refl ⟨by simp [fieldsE, zO, zN, zS, zA, isEmpty_len, nn, plainE, k12, z2, z3, z4, clen2], rfl⟩)
   | false =>
    simp (disch := omega) only [go_sem, k12]
    exact DFin.dropA r1 hr1 (DFin.refl ⟨by rw [fields_no12 k12 pl], rfl⟩)
  by_cases k13 : e.kind = 13
  ·skip
   simp (disch := omega) only [go_sem, k13]
   refine (rplain_spec G _ e false false false false).mono ?_
   rintro _ H1 ⟨rfl, rfl⟩
   cases pl : plainE e false false false false with
   | true =>
    have pl2 := plain_ffff pl
    obtain ⟨z1, z2, z3, z4⟩ := pl2
    by_cases c2 : e.l.length = 2
    ·exfalso; omega
    ·have c2' : ¬ (e.l.length : Int) = 2 := by omega
     by_cases c3 : e.l.length = 3
     ·exfalso; omega
     ·have c3' : ¬ (e.l.length : Int) = 3 := by omega
      simp (disch := omega) only [go_sem, k13, c2', c3']
      exact DFin.dropA r1 hr1 (DFin.refl ⟨by simp [fieldsE, zO, zN, zS, zA, isEmpty_len, nn, plainE, k13, z1, z2, z3, z4, c2, c3], rfl⟩)
   | false =>
    simp (disch := omega) only [go_sem, k13]
    exact DFin.dropA r1 hr1 (DFin.refl ⟨by rw [fields_no13 k13 pl], rfl⟩)
  by_cases k14 : e.kind = 14
  ·skip
   simp (disch := omega) only [go_sem, k14]
   refine (rplain_spec G _ e false false false false).mono ?_
   rintro _ H1 ⟨rfl, rfl⟩
   cases pl : plainE e false false false false with
   | true =>
    have pl2 := plain_ffff pl
    obtain ⟨z1, z2, z3, z4⟩ := pl2
    by_cases c2 : e.l.length = 2
    ·exfalso; omega
    ·have c2' : ¬ (e.l.length : Int) = 2 := by omega
     by_cases c3 : e.l.length = 3
     ·exfalso; omega
     ·have c3' : ¬ (e.l.length : Int) = 3 := by omega
      simp (disch := omega) only [go_sem, k14, c2', c3']
      exact DFin.dropA r1 hr1 (DFin.refl ⟨by simp [fieldsE, zO, zN, zS, zA, isEmpty_len, nn, plainE, k14, z1, z2, z3, z4, c2, c3], rfl⟩)
   | false =>
    simp (disch := omega) only [go_sem, k14]
    exact DFin.dropA r1 hr1 (DFin.refl ⟨by rw [fields_no14 k14 pl], rfl⟩)
  simp (disch := omega) only [go_sem, k1, k2, k3, k4, k6, k5, k7, k8, k9, k10, k11, k12, k13, k14]
  exact DFin.dropA r1 hr1 (DFin.refl ⟨by simp [fieldsE, k1, k2, k3, k4, k6, k5, k7, k8, k9, k10, k11, k12, k13, k14], rfl⟩)
end
end Go.Dl
