/- The data level and the contracts of the functions that are reached (part 8). -/
import Derived.Test.YtocmbkaaioomdaaDoorMg
set_option linter.unusedSimpArgs false
set_option linter.unusedVariables false
-- Chapter 35: Of, Puts.
namespace Go.Dl
open Go Go.Proofs
set_option maxRecDepth 10000

theorem flat_one {α : Type} {c : α → List DVal} (h : ∀ x, ((c x).all (·.one)) = true) (l : List α) : ((l.flatMap c).all (·.one)) = true := by
  induction l with
  | nil => rfl
  | cons x l ih => rw [List.flatMap_cons, List.all_append, h x, ih]; rfl
theorem dAct_one (x : Act) : ((dAct x).all (·.one)) = true := rfl
theorem flat_splice {α : Type} {c : α → List DVal} {k : Nat} (hk : ∀ x, (c x).length = k) : ∀ (l : List α) (i : Nat) (x : α), i < l.length → splice (l.flatMap c) (i * k) (c x) = (l.set i x).flatMap c
  | [], i, x, h => by simp at h
  | y :: l, 0, x, _ => by
    rw [Nat.zero_mul, splice_zero, List.flatMap_cons, hk, List.set_cons_zero, List.flatMap_cons, ← hk y, List.drop_left]
  | y :: l, i + 1, x, h => by
    have ih := flat_splice hk l i x (by simpa using h)
    rw [List.flatMap_cons, List.set_cons_succ, List.flatMap_cons, ← ih]
    unfold splice
    have e1 : (i + 1) * k = (c y).length + i * k := by rw [hk, Nat.add_mul]; omega
    rw [e1, List.take_append, List.take_of_length_le (by omega), Nat.add_sub_cancel_left, show (c y).length + i * k + (c x).length = (c y).length + (i * k + (c x).length) by omega, List.drop_append, List.drop_of_length_le (l := c y) (by omega)]
    simp [Nat.add_sub_cancel_left]

theorem flat_take {α : Type} {c : α → List DVal} {k : Nat} (hk : ∀ x, (c x).length = k) (l : List α) (i : Nat) (hi : i ≤ l.length) : (l.flatMap c).take (i * k) = (l.take i).flatMap c := by
  have h : l.flatMap c = (l.take i).flatMap c ++ (l.drop i).flatMap c := by rw [← List.flatMap_append, List.take_append_drop]
  rw [h, List.take_append_of_le_length (by rw [flat_len hk, List.length_take]; rw [Nat.min_eq_left hi]; omega), List.take_of_length_le (by rw [flat_len hk, List.length_take, Nat.min_eq_left hi]; omega)]
theorem repl0 (zs : List DVal) : repl 0 zs = [] := rfl
attribute [go_sem] repl0
theorem clone_act (G : Nat → DVal) (l : List Act) (H : DHeap) (hl : l.length ≤ 1000000000) : DCalls Tryd.prog G 20 [dActs l] H fun e H' => ∃ v, e = .ret v ∧ OAJ H l v H' := by
  have hln := flat_len dAct_length l
  have ho := flat_one dAct_one l
  refine dcalls_intro Tryd.func20 Tryd.call20 rfl (by kernel_rfl) ?_
  simp (disch := omega) only [go_sem, Nat.reduceEqDiff, Nat.reduceAdd, Nat.reduceMul, Nat.reduceSub, Nat.reduceLeDiff, ↓reduceIte, reduceCtorEq, Int.reduceAdd, Int.reduceSub, Int.reduceMul, Int.reduceNeg, Int.reduceToNat, List.reduceReplicate, String.reduceEq, dActs]
  intro b hb
  cases b with
  | true =>
    simp (disch := omega) only [go_sem, Nat.reduceEqDiff, Nat.reduceAdd, Nat.reduceMul, Nat.reduceSub, Nat.reduceLeDiff, ↓reduceIte, reduceCtorEq, Int.reduceAdd, Int.reduceSub, Int.reduceMul, Int.reduceNeg, Int.reduceToNat, List.reduceReplicate, String.reduceEq]
    have h0 : l = [] := by
      cases l with
      | nil => rfl
      | cons x l => exact absurd (hb (by simp [dAct])) (by simp)
    subst h0
    exact DFin.refl ⟨_, rfl, OwnJ.nil _ _ (Sub.refl _)⟩
  | false =>
    simp (disch := omega) only [go_sem, Nat.reduceEqDiff, Nat.reduceAdd, Nat.reduceMul, Nat.reduceSub, Nat.reduceLeDiff, ↓reduceIte, reduceCtorEq, Int.reduceAdd, Int.reduceSub, Int.reduceMul, Int.reduceNeg, Int.reduceToNat, List.reduceReplicate, String.reduceEq]
    intro r hr; dsimp only at hr
    have ht : (l.flatMap dAct).take (l.length * 6) = l.flatMap dAct := List.take_of_length_le (by omega)
    simp (disch := omega) only [go_sem, Nat.reduceEqDiff, Nat.reduceAdd, Nat.reduceMul, Nat.reduceSub, Nat.reduceLeDiff, ↓reduceIte, reduceCtorEq, Int.reduceAdd, Int.reduceSub, Int.reduceMul, Int.reduceNeg, Int.reduceToNat, List.reduceReplicate, String.reduceEq, hln, ht, ho]
    have hv : OwnJ H 37 6 0 [] (.oslice 6 r 0 0 0) (upd H r (some (.cells [] 37))) := .inr ⟨r, hr, rfl, rfl, upd_same _ _ _, (Sub.refl H).up hr _⟩
    refine OwnJ.appendO hv hln (by omega) fun v' H2 hv2 => ?_
    simp (disch := omega) only [go_sem, Nat.reduceEqDiff, Nat.reduceAdd, Nat.reduceMul, Nat.reduceSub, Nat.reduceLeDiff, ↓reduceIte, reduceCtorEq, Int.reduceAdd, Int.reduceSub, Int.reduceMul, Int.reduceNeg, Int.reduceToNat, List.reduceReplicate, String.reduceEq]
    refine DFin.refl ⟨v', rfl, ?_⟩
    simpa [OAJ] using hv2

theorem of1_spec (G : Nat → DVal) (H : DHeap) (t : Int) (x : Act) : DCalls Tryd.prog G 48 ([] ++ [.agg (dAct x)] ++ [.vptr [dI t] 0]) H (DRet (.bool (!decide (x.task = t))) H) := by
  refine dcalls_intro Tryd.func48 Tryd.call48 rfl (by kernel_rfl) ?_
  simp (disch := omega) only [go_sem, Nat.reduceEqDiff, Nat.reduceAdd, Nat.reduceMul, Nat.reduceSub, Nat.reduceLeDiff, ↓reduceIte, reduceCtorEq, Int.reduceAdd, Int.reduceSub, Int.reduceMul, Int.reduceNeg, Int.reduceToNat, List.reduceReplicate, String.reduceEq, dAct, DVal.cells, List.nil_append, List.cons_append]
  intro r hr; dsimp only at hr
  simp (disch := omega) only [go_sem, Nat.reduceEqDiff, Nat.reduceAdd, Nat.reduceMul, Nat.reduceSub, Nat.reduceLeDiff, ↓reduceIte, reduceCtorEq, Int.reduceAdd, Int.reduceSub, Int.reduceMul, Int.reduceNeg, Int.reduceToNat, List.reduceReplicate, String.reduceEq]
  exact DFin.dropA r hr (DFin.refl ⟨rfl, rfl⟩)

theorem deleteFunc_act (G : Nat → DVal) (H H0 : DHeap) (p : Act → Bool) (l : List Act) (v : DVal) (g : FuncId) (xs ys : List DVal) (hl : l.length ≤ 1000000000)
    (hp : ∀ H, ∀ x ∈ l, DCalls Tryd.prog G g (xs ++ [.agg (dAct x)] ++ ys) H (DRet (.bool (p x)) H)) (hv : OAJ H l v H0) :
    DCalls Tryd.prog G 47 [v, .func (.func g) xs ys] H0 (DRet (dActs (l.filter fun x => !p x)) H) := by
  refine dcalls_intro Tryd.func47 Tryd.call47 rfl (by kernel_rfl) ?_
  simp (disch := omega) only [go_sem, Nat.reduceEqDiff, Nat.reduceAdd, Nat.reduceMul, Nat.reduceSub, Nat.reduceLeDiff, ↓reduceIte, reduceCtorEq, Int.reduceAdd, Int.reduceSub, Int.reduceMul, Int.reduceNeg, Int.reduceToNat, List.reduceReplicate, String.reduceEq]
  refine ((indexFunc_act G h0 p l g xs ys (by omega) (hp h0)).lent (OwnJ.lend hv _) rfl).mono ?_
  rintro _ H0 ⟨rfl, rfl⟩
  cases hf : l.findIdx? p with
  | none =>
    have hi : idxF p l = -1 := by rw [idxF, hf]
    have hfl : (l.filter fun x => !p x) = l := by
      rw [List.filter_eq_self]
      intro x hx
      rw [List.findIdx?_eq_none_iff] at hf
      rw [hf x hx]; rfl
    simp (disch := omega) only [go_sem, Nat.reduceEqDiff, Nat.reduceAdd, Nat.reduceMul, Nat.reduceSub, Nat.reduceLeDiff, ↓reduceIte, reduceCtorEq, Int.reduceAdd, Int.reduceSub, Int.reduceMul, Int.reduceNeg, Int.reduceToNat, List.reduceReplicate, String.reduceEq, hi]
    rw [hfl]
    exact OwnJ.fin hv ⟨rfl, rfl⟩
  | some i =>
    have hi : idxF p l = i := by rw [idxF, hf]
    obtain ⟨hil, hpi, hpn⟩ := List.findIdx?_eq_some_iff_getElem.1 hf
    have hi1 : ¬ (i : Int) = -1 := by omega
    rcases hv with ⟨h0, _⟩ | ⟨r, hr, hcl, rfl, hc, hs⟩
    · omega
    simp (disch := omega) only [go_sem, Nat.reduceEqDiff, Nat.reduceAdd, Nat.reduceMul, Nat.reduceSub, Nat.reduceLeDiff, ↓reduceIte, reduceCtorEq, Int.reduceAdd, Int.reduceSub, Int.reduceMul, Int.reduceNeg, Int.reduceToNat, List.reduceReplicate, String.reduceEq, hi, hi1]
    obtain ⟨I, hI⟩ : ∃ I : Nat × Nat → (Nat → DVal) → DHeap → Prop, ∀ ix env heap, I ix env heap ↔ (env 0 = .oslice 6 r 0 l.length l.length ∧ env 1 = .func (.func g) xs ys ∧ env 5 = dI ix.2 ∧ env 6 = dI ix.1 ∧ ix.2 < ix.1 ∧ ix.1 ≤ l.length ∧ Sub H heap ∧ ∃ m : List Act, heap r = some (.cells (m.flatMap dAct) 37) ∧ m.length = l.length ∧ m.take ix.2 = (l.take ix.1).filter (fun x => !p x) ∧ m.drop ix.1 = l.drop ix.1) := ⟨_, fun _ _ _ => Iff.rfl⟩
    refine DLoop.run I (fun ix => l.length - ix.1) (i + 1, i) ((hI _ _ _).2 ?_) ?_
    · simp (disch := omega) only [go_sem, Nat.reduceEqDiff, Nat.reduceAdd, Nat.reduceMul, Nat.reduceSub, Nat.reduceLeDiff, ↓reduceIte, reduceCtorEq, Int.reduceAdd, Int.reduceSub, Int.reduceMul, Int.reduceNeg, Int.reduceToNat, List.reduceReplicate, String.reduceEq]
      (repeat' apply And.intro) <;> (try first | rfl | assumption | omega)
      refine ⟨l, hc, rfl, ?_, rfl⟩
      rw [List.take_succ_eq_append_getElem hil, List.filter_append]
      have h1 : [l[i]].filter (fun x => !p x) = [] := by simp [hpi]
      rw [h1, List.append_nil, List.filter_eq_self.2]
      intro x hx
      obtain ⟨j, hj, rfl⟩ := List.mem_take_iff_getElem.1 hx
      have := hpn j (by omega)
      simpa using this
    · rintro ⟨j, k⟩ env heap hi
      obtain ⟨h0, h1, h5, h6, hkj, hjl, hsub, m, hm, hml, hmt, hmd⟩ := (hI _ _ _).1 hi
      dsimp only at h5 h6 hkj hjl hmt hmd
      by_cases hlt : j < l.length
      · have hmj : m[j]'(by omega) = l[j] := by
          have := congrArg (fun z => z[0]?) hmd
          simp only [List.getElem?_drop, Nat.add_zero] at this
          rw [List.getElem?_eq_getElem (by omega), List.getElem?_eq_getElem hlt] at this
          exact Option.some.inj this
        have hget := flat_el dAct_length m j (by omega)
        rw [hmj] at hget
        have hfl := flat_len dAct_length m
        have hxl : (dAct l[j]).length = 6 := rfl
        have hxt : (dAct l[j]).take 6 = dAct l[j] := rfl
        have hxd : (dAct l[j]).drop 6 = [] := rfl
        have hxo : ((dAct l[j]).all fun x => x.one) = true := rfl
        have hxc : (DVal.agg (dAct l[j])).cells = dAct l[j] := rfl
        simp (disch := omega) only [go_sem, Nat.reduceEqDiff, Nat.reduceAdd, Nat.reduceMul, Nat.reduceSub, Nat.reduceLeDiff, ↓reduceIte, reduceCtorEq, Int.reduceAdd, Int.reduceSub, Int.reduceMul, Int.reduceNeg, Int.reduceToNat, List.reduceReplicate, String.reduceEq, h0, h1, h5, h6, hm, hget, hfl, hml]
        intro ra hra; dsimp only at hra
        have d1 : ¬ r = ra := fun e => by subst e; rw [hm] at hra; cases hra
        have d2 : ¬ ra = r := fun e => d1 e.symm
        have hra' : H ra = none := Sub.lo hsub hra
        simp (disch := omega) only [go_sem, Nat.reduceEqDiff, Nat.reduceAdd, Nat.reduceMul, Nat.reduceSub, Nat.reduceLeDiff, ↓reduceIte, reduceCtorEq, Int.reduceAdd, Int.reduceSub, Int.reduceMul, Int.reduceNeg, Int.reduceToNat, List.reduceReplicate, String.reduceEq, h0, h1, h5, h6, hm, hget, hfl, hml, hxl, hxt, hxd, hxo, hxc, List.append_nil, d1, d2]
        refine (hp _ l[j] (List.getElem_mem hlt)).mono ?_
        rintro _ heap2 ⟨rfl, rfl⟩
        have htk : (l.take (j + 1)).filter (fun x => !p x) = (l.take j).filter (fun x => !p x) ++ (if p l[j] then [] else [l[j]]) := by
          rw [List.take_succ_eq_append_getElem hlt, List.filter_append]
          congr 1
          cases hpx : p l[j] <;> simp [hpx]
        have hdk : m.drop (j + 1) = l.drop (j + 1) := by
          have := congrArg (List.drop 1) hmd
          rwa [List.drop_drop, List.drop_drop] at this
        cases hpx : p l[j] with
        | true =>
          simp (disch := omega) only [go_sem, Nat.reduceEqDiff, Nat.reduceAdd, Nat.reduceMul, Nat.reduceSub, Nat.reduceLeDiff, ↓reduceIte, reduceCtorEq, Int.reduceAdd, Int.reduceSub, Int.reduceMul, Int.reduceNeg, Int.reduceToNat, List.reduceReplicate, String.reduceEq, h0, h1, h5, h6, hm]
          refine ⟨(j + 1, k), _, GhostS.refl _, (hI _ _ _).2 ?_, by dsimp only; omega⟩
          simp (disch := omega) only [go_sem, Nat.reduceEqDiff, Nat.reduceAdd, Nat.reduceMul, Nat.reduceSub, Nat.reduceLeDiff, ↓reduceIte, reduceCtorEq, Int.reduceAdd, Int.reduceSub, Int.reduceMul, Int.reduceNeg, Int.reduceToNat, List.reduceReplicate, String.reduceEq, h0, h1, h5, h6]
          (repeat' apply And.intro) <;> (try first | rfl | assumption | omega)
          · exact (by repeat (first | exact Sub.refl _ | assumption | refine Sub.up ?_ (by assumption) _))
          · refine ⟨m, by simp [upd, d1, hm], hml, ?_, hdk⟩
            rw [htk, hpx, hmt]; simp
        | false =>
          have hsp := flat_splice dAct_length m k l[j] (by omega)
          simp (disch := omega) only [go_sem, Nat.reduceEqDiff, Nat.reduceAdd, Nat.reduceMul, Nat.reduceSub, Nat.reduceLeDiff, ↓reduceIte, reduceCtorEq, Int.reduceAdd, Int.reduceSub, Int.reduceMul, Int.reduceNeg, Int.reduceToNat, List.reduceReplicate, String.reduceEq, h0, h1, h5, h6, hm, hml, hxl, hxt, hxo, hxc, hfl, d1, d2, hsp]
          refine ⟨(j + 1, k + 1), _, GhostS.refl _, (hI _ _ _).2 ?_, by dsimp only; omega⟩
          simp (disch := omega) only [go_sem, Nat.reduceEqDiff, Nat.reduceAdd, Nat.reduceMul, Nat.reduceSub, Nat.reduceLeDiff, ↓reduceIte, reduceCtorEq, Int.reduceAdd, Int.reduceSub, Int.reduceMul, Int.reduceNeg, Int.reduceToNat, List.reduceReplicate, String.reduceEq, h0, h1, h5, h6]
          (repeat' apply And.intro) <;> (try first | rfl | assumption | omega)
          · exact (by repeat (first | exact Sub.refl _ | assumption | refine Sub.up ?_ (by assumption) _))
          · refine ⟨m.set k l[j], rfl, by rw [List.length_set]; exact hml, ?_, ?_⟩
            · rw [htk, hpx, ← hmt, List.take_succ_eq_append_getElem (by rw [List.length_set]; omega), List.take_set_of_le (by omega)]
              simp
            · rw [List.drop_set_of_lt (by omega)]; exact hdk
      · have hj : j = l.length := by omega
        subst hj
        rw [List.take_length] at hmt
        have hfl := flat_len dAct_length m
        have hkl : ((l.filter fun x => !p x)).length = k := by rw [← hmt, List.length_take]; omega
        simp (disch := omega) only [go_sem, Nat.reduceEqDiff, Nat.reduceAdd, Nat.reduceMul, Nat.reduceSub, Nat.reduceLeDiff, ↓reduceIte, reduceCtorEq, Int.reduceAdd, Int.reduceSub, Int.reduceMul, Int.reduceNeg, Int.reduceToNat, List.reduceReplicate, String.reduceEq, h0, h1, h5, h6, hm, hml, hfl]
        simp only [Nat.sub_zero]
        unfold splice
        rw [flat_take dAct_length m k (by omega), hmt, List.append_assoc]
        refine DFin.sub (Sub.both hsub r _) (DFin.ghost (GhostE.slice hr (by rw [flat_len dAct_length, hkl])) (DFin.refl ⟨?_, rfl⟩))
        rw [dActs, hkl]

def ofL (l : List Act) (t : Int) : List Act := l.filter fun x => decide (x.task = t)
theorem of_spec (G : Nat → DVal) (H : DHeap) (l : List Act) (t : Int) (hl : l.length ≤ 1000000000) : DCalls Tryd.prog G 22 [dActs l, dI t] H (DRet (dActs (ofL l t)) H) := by
  refine dcalls_intro Tryd.func22 Tryd.call22 rfl (by kernel_rfl) ?_
  simp (disch := omega) only [go_sem, Nat.reduceEqDiff, Nat.reduceAdd, Nat.reduceMul, Nat.reduceSub, Nat.reduceLeDiff, ↓reduceIte, reduceCtorEq, Int.reduceAdd, Int.reduceSub, Int.reduceMul, Int.reduceNeg, Int.reduceToNat, List.reduceReplicate, String.reduceEq, DVal.cells]
  intro r hr; dsimp only at hr
  simp (disch := omega) only [go_sem, Nat.reduceEqDiff, Nat.reduceAdd, Nat.reduceMul, Nat.reduceSub, Nat.reduceLeDiff, ↓reduceIte, reduceCtorEq, Int.reduceAdd, Int.reduceSub, Int.reduceMul, Int.reduceNeg, Int.reduceToNat, List.reduceReplicate, String.reduceEq]
  refine (clone_act G l _ hl).mono ?_
  rintro _ H1 ⟨v, rfl, hv⟩
  have hk := OwnJ.keep hv (upd_same _ _ _)
  simp (disch := omega) only [go_sem, Nat.reduceEqDiff, Nat.reduceAdd, Nat.reduceMul, Nat.reduceSub, Nat.reduceLeDiff, ↓reduceIte, reduceCtorEq, Int.reduceAdd, Int.reduceSub, Int.reduceMul, Int.reduceNeg, Int.reduceToNat, List.reduceReplicate, String.reduceEq]
  refine DCalls.fzArgs r hk ?_
  have hv2 : OAJ H l v (upd H1 r none) := by
    rcases hv with ⟨a, b, c, d⟩ | ⟨q, a, b, c, d, f⟩
    · exact .inl ⟨a, b, c, fun b o hb => by
        have : b ≠ r := fun e => by rw [e, hr] at hb; cases hb
        simp only [upd, if_neg this]; exact d b o (by simp only [upd, if_neg this]; exact hb)⟩
    · have hq : q ≠ r := fun e => by subst e; rw [upd_same] at a; cases a
      refine .inr ⟨q, by simpa [upd, hq] using a, b, c, by simp [upd, hq, d], fun b o hb => ?_⟩
      have : b ≠ r := fun e => by rw [e, hr] at hb; cases hb
      simp only [upd, if_neg this]; exact f b o (by simp only [upd, if_neg this]; exact hb)
  have hfz : fz r [dI t] v = v := by
    rcases hv with ⟨a, b, rfl, d⟩ | ⟨q, a, b, rfl, d, f⟩
    · rfl
    · have hq : ¬ q = r := fun e => by subst e; rw [upd_same] at a; cases a
      simp [fz, hq]
  simp (disch := omega) only [go_sem, Nat.reduceEqDiff, Nat.reduceAdd, Nat.reduceMul, Nat.reduceSub, Nat.reduceLeDiff, ↓reduceIte, reduceCtorEq, Int.reduceAdd, Int.reduceSub, Int.reduceMul, Int.reduceNeg, Int.reduceToNat, List.reduceReplicate, String.reduceEq, hfz]
  refine (deleteFunc_act G H (upd H1 r none) (fun x => !decide (x.task = t)) l v 48 [] [.vptr [dI t] 0] hl (fun H x _ => of1_spec G H t x) hv2).mono ?_
  rintro _ H' ⟨rfl, rfl⟩
  simp (disch := omega) only [go_sem, Nat.reduceEqDiff, Nat.reduceAdd, Nat.reduceMul, Nat.reduceSub, Nat.reduceLeDiff, ↓reduceIte, reduceCtorEq, Int.reduceAdd, Int.reduceSub, Int.reduceMul, Int.reduceNeg, Int.reduceToNat, List.reduceReplicate, String.reduceEq]
  refine DFin.refl ⟨?_, rfl⟩
  rw [ofL]; congr 3; funext x; simp

theorem rof_spec (G : Nat → DVal) (H : DHeap) (l : List Act) (t : Int) (hl : l.length ≤ 1000000000) : DCalls Tryd.prog G 23 [dActs l, dI t] H (DRet (dActs (ofL l t)) H) := by
  have hfl := flat_len dAct_length l
  refine dcalls_intro Tryd.func23 Tryd.call23 rfl (by kernel_rfl) ?_
  simp (disch := omega) only [go_sem, Nat.reduceEqDiff, Nat.reduceAdd, Nat.reduceMul, Nat.reduceSub, Nat.reduceLeDiff, ↓reduceIte, reduceCtorEq, Int.reduceAdd, Int.reduceSub, Int.reduceMul, Int.reduceNeg, Int.reduceToNat, List.reduceReplicate, String.reduceEq]
  obtain ⟨I, hI⟩ : ∃ I : Nat → (Nat → DVal) → DHeap → Prop, ∀ i env heap, I i env heap ↔ (env 0 = dActs l ∧ env 1 = dI t ∧ env 6 = dI i ∧ i ≤ l.length ∧ OAJ H (ofL (l.take i) t) (env 5) heap) := ⟨_, fun _ _ _ => Iff.rfl⟩
  refine DLoop.run I (fun i => l.length - i) 0 ((hI _ _ _).2 ?_) ?_
  · simp (disch := omega) only [go_sem, Nat.reduceEqDiff, Nat.reduceAdd, Nat.reduceMul, Nat.reduceSub, Nat.reduceLeDiff, ↓reduceIte, reduceCtorEq, Int.reduceAdd, Int.reduceSub, Int.reduceMul, Int.reduceNeg, Int.reduceToNat, List.reduceReplicate, String.reduceEq]
    (repeat' apply And.intro) <;> (try first | rfl | assumption | omega)
    exact OwnJ.nil _ _ (Sub.refl _)
  · rintro i env heap hi
    obtain ⟨h0, h1, h6, hil, hv⟩ := (hI _ _ _).1 hi
    by_cases hlt : i < l.length
    · have hg1 := flat_get dAct_length l i hlt 1 (by omega)
      have hg1 : (l.flatMap dAct)[i * 6 + 1]? = some (dI l[i].task) := hg1
      have hget := flat_el dAct_length l i hlt
      have hxo : ((dAct l[i]).all fun x => x.one) = true := rfl
      have hxl : (dAct l[i]).length = 6 := rfl
      have hxt : (dAct l[i]).take 6 = dAct l[i] := rfl
      have hxd : (dAct l[i]).drop 6 = [] := rfl
      have hxc : (DVal.agg (dAct l[i])).cells = dAct l[i] := rfl
      have hof : ofL (l.take (i + 1)) t = ofL (l.take i) t ++ (if l[i].task = t then [l[i]] else []) := by
        rw [ofL, ofL, List.take_succ_eq_append_getElem hlt, List.filter_append]
        congr 1
        by_cases e : l[i].task = t <;> simp [e]
      have hlen : (ofL (l.take i) t).length ≤ 1000000000 := by
        have := List.length_filter_le (fun x : Act => decide (x.task = t)) (l.take i)
        rw [List.length_take] at this
        rw [ofL]; omega
      by_cases c : l[i].task = t
      · simp (disch := omega) only [go_sem, Nat.reduceEqDiff, Nat.reduceAdd, Nat.reduceMul, Nat.reduceSub, Nat.reduceLeDiff, ↓reduceIte, reduceCtorEq, Int.reduceAdd, Int.reduceSub, Int.reduceMul, Int.reduceNeg, Int.reduceToNat, List.reduceReplicate, String.reduceEq, h0, h1, h6, dActs, hfl, hg1, hget, hxl, hxt, hxd, hxo, hxc, List.append_nil]
        intro ra hra; dsimp only at hra
        simp (disch := omega) only [go_sem, Nat.reduceEqDiff, Nat.reduceAdd, Nat.reduceMul, Nat.reduceSub, Nat.reduceLeDiff, ↓reduceIte, reduceCtorEq, Int.reduceAdd, Int.reduceSub, Int.reduceMul, Int.reduceNeg, Int.reduceToNat, List.reduceReplicate, String.reduceEq, hxl, hxt, hxo]
        refine OAJ.app (bytes := 48) (OwnJ.new hv hra _) (by omega) fun v2 H2 hv2 => ?_
        simp (disch := omega) only [go_sem, Nat.reduceEqDiff, Nat.reduceAdd, Nat.reduceMul, Nat.reduceSub, Nat.reduceLeDiff, ↓reduceIte, reduceCtorEq, Int.reduceAdd, Int.reduceSub, Int.reduceMul, Int.reduceNeg, Int.reduceToNat, List.reduceReplicate, String.reduceEq, h0, h1, h6]
        refine ⟨i + 1, _, GhostS.refl _, (hI _ _ _).2 ?_, by omega⟩
        simp (disch := omega) only [go_sem, Nat.reduceEqDiff, Nat.reduceAdd, Nat.reduceMul, Nat.reduceSub, Nat.reduceLeDiff, ↓reduceIte, reduceCtorEq, Int.reduceAdd, Int.reduceSub, Int.reduceMul, Int.reduceNeg, Int.reduceToNat, List.reduceReplicate, String.reduceEq, h0, h1, h6, dActs]
        (repeat' apply And.intro) <;> (try first | rfl | assumption | omega)
        rw [hof, if_pos c]; exact hv2
      · simp (disch := omega) only [go_sem, Nat.reduceEqDiff, Nat.reduceAdd, Nat.reduceMul, Nat.reduceSub, Nat.reduceLeDiff, ↓reduceIte, reduceCtorEq, Int.reduceAdd, Int.reduceSub, Int.reduceMul, Int.reduceNeg, Int.reduceToNat, List.reduceReplicate, String.reduceEq, h0, h1, h6, dActs, hfl, hg1]
        refine ⟨i + 1, _, GhostS.refl _, (hI _ _ _).2 ?_, by omega⟩
        simp (disch := omega) only [go_sem, Nat.reduceEqDiff, Nat.reduceAdd, Nat.reduceMul, Nat.reduceSub, Nat.reduceLeDiff, ↓reduceIte, reduceCtorEq, Int.reduceAdd, Int.reduceSub, Int.reduceMul, Int.reduceNeg, Int.reduceToNat, List.reduceReplicate, String.reduceEq, h0, h1, h6, dActs]
        (repeat' apply And.intro) <;> (try first | rfl | assumption | omega)
        rw [hof, if_neg c, List.append_nil]; exact hv
    · simp (disch := omega) only [go_sem, Nat.reduceEqDiff, Nat.reduceAdd, Nat.reduceMul, Nat.reduceSub, Nat.reduceLeDiff, ↓reduceIte, reduceCtorEq, Int.reduceAdd, Int.reduceSub, Int.reduceMul, Int.reduceNeg, Int.reduceToNat, List.reduceReplicate, String.reduceEq, h0, h1, h6, dActs]
      have : i = l.length := by omega
      subst this
      rw [List.take_length] at hv
      exact OwnJ.fin hv ⟨rfl, rfl⟩

def putsL (l : List Act) : List Int := (l.filter fun x => decide (x.kind = 1)).map (·.a)
theorem putsL_next {l : List Act} {i : Nat} (hlt : i < l.length) : putsL (l.take (i + 1)) = putsL (l.take i) ++ (if l[i].kind = 1 then [l[i].a] else []) := by
  rw [putsL, putsL, List.take_succ_eq_append_getElem hlt, List.filter_append, List.map_append]
  congr 1
  by_cases e : l[i].kind = 1 <;> simp [e]
theorem putsL_len (l : List Act) : (putsL l).length ≤ l.length := by rw [putsL, List.length_map]; exact List.length_filter_le _ _
/-- A slice of int64. -/
def dI64s (l : List Int) : DVal := .vslice (l.map dI) l.length

theorem rputs_spec (G : Nat → DVal) (H : DHeap) (l : List Act) (hl : l.length ≤ 1000000000) : DCalls Tryd.prog G 26 [dActs l] H (DRet (dI64s (putsL l)) H) := by
  have hfl := flat_len dAct_length l
  refine dcalls_intro Tryd.func26 Tryd.call26 rfl (by kernel_rfl) ?_
  simp (disch := omega) only [go_sem, Nat.reduceEqDiff, Nat.reduceAdd, Nat.reduceMul, Nat.reduceSub, Nat.reduceLeDiff, ↓reduceIte, reduceCtorEq, Int.reduceAdd, Int.reduceSub, Int.reduceMul, Int.reduceNeg, Int.reduceToNat, List.reduceReplicate, String.reduceEq]
  obtain ⟨I, hI⟩ : ∃ I : Nat → (Nat → DVal) → DHeap → Prop, ∀ i env heap, I i env heap ↔ (env 0 = dActs l ∧ env 4 = dI i ∧ i ≤ l.length ∧ OwnJ H 2 1 (putsL (l.take i)).length ((putsL (l.take i)).map dI) (env 3) heap) := ⟨_, fun _ _ _ => Iff.rfl⟩
  refine DLoop.run I (fun i => l.length - i) 0 ((hI _ _ _).2 ?_) ?_
  · simp (disch := omega) only [go_sem, Nat.reduceEqDiff, Nat.reduceAdd, Nat.reduceMul, Nat.reduceSub, Nat.reduceLeDiff, ↓reduceIte, reduceCtorEq, Int.reduceAdd, Int.reduceSub, Int.reduceMul, Int.reduceNeg, Int.reduceToNat, List.reduceReplicate, String.reduceEq]
    (repeat' apply And.intro) <;> (try first | rfl | assumption | omega)
    exact OwnJ.nil _ _ (Sub.refl _)
  · rintro i env heap hi
    obtain ⟨h0, h6, hil, hv⟩ := (hI _ _ _).1 hi
    by_cases hlt : i < l.length
    · have hg2 : (l.flatMap dAct)[i * 6 + 2]? = some (.int .u8 l[i].kind) := flat_get dAct_length l i hlt 2 (by omega)
      have hg3 : (l.flatMap dAct)[i * 6 + 3]? = some (dI l[i].a) := flat_get dAct_length l i hlt 3 (by omega)
      have hof := putsL_next hlt
      have hlen := putsL_len (l.take i)
      rw [List.length_take] at hlen
      by_cases c : l[i].kind = 1
      · simp (disch := omega) only [go_sem, Nat.reduceEqDiff, Nat.reduceAdd, Nat.reduceMul, Nat.reduceSub, Nat.reduceLeDiff, ↓reduceIte, reduceCtorEq, Int.reduceAdd, Int.reduceSub, Int.reduceMul, Int.reduceNeg, Int.reduceToNat, List.reduceReplicate, String.reduceEq, h0, h6, dActs, hfl, hg2, hg3, c]
        intro ra hra; dsimp only at hra
        simp (disch := omega) only [go_sem, Nat.reduceEqDiff, Nat.reduceAdd, Nat.reduceMul, Nat.reduceSub, Nat.reduceLeDiff, ↓reduceIte, reduceCtorEq, Int.reduceAdd, Int.reduceSub, Int.reduceMul, Int.reduceNeg, Int.reduceToNat, List.reduceReplicate, String.reduceEq, h0, h6]
        refine OwnJ.append (m := 1) (bytes := 8) (OwnJ.new hv hra _) rfl (by omega) fun v2 H2 hv2 => ?_
        simp (disch := omega) only [go_sem, Nat.reduceEqDiff, Nat.reduceAdd, Nat.reduceMul, Nat.reduceSub, Nat.reduceLeDiff, ↓reduceIte, reduceCtorEq, Int.reduceAdd, Int.reduceSub, Int.reduceMul, Int.reduceNeg, Int.reduceToNat, List.reduceReplicate, String.reduceEq, h0, h6]
        refine ⟨i + 1, _, GhostS.refl _, (hI _ _ _).2 ?_, by omega⟩
        simp (disch := omega) only [go_sem, Nat.reduceEqDiff, Nat.reduceAdd, Nat.reduceMul, Nat.reduceSub, Nat.reduceLeDiff, ↓reduceIte, reduceCtorEq, Int.reduceAdd, Int.reduceSub, Int.reduceMul, Int.reduceNeg, Int.reduceToNat, List.reduceReplicate, String.reduceEq, h0, h6, dActs]
        (repeat' apply And.intro) <;> (try first | rfl | assumption | omega)
        rw [hof, if_pos c]; simpa using hv2
      · simp (disch := omega) only [go_sem, Nat.reduceEqDiff, Nat.reduceAdd, Nat.reduceMul, Nat.reduceSub, Nat.reduceLeDiff, ↓reduceIte, reduceCtorEq, Int.reduceAdd, Int.reduceSub, Int.reduceMul, Int.reduceNeg, Int.reduceToNat, List.reduceReplicate, String.reduceEq, h0, h6, dActs, hfl, hg2]
        refine ⟨i + 1, _, GhostS.refl _, (hI _ _ _).2 ?_, by omega⟩
        simp (disch := omega) only [go_sem, Nat.reduceEqDiff, Nat.reduceAdd, Nat.reduceMul, Nat.reduceSub, Nat.reduceLeDiff, ↓reduceIte, reduceCtorEq, Int.reduceAdd, Int.reduceSub, Int.reduceMul, Int.reduceNeg, Int.reduceToNat, List.reduceReplicate, String.reduceEq, h0, h6, dActs]
        (repeat' apply And.intro) <;> (try first | rfl | assumption | omega)
        rw [hof, if_neg c, List.append_nil]; exact hv
    · simp (disch := omega) only [go_sem, Nat.reduceEqDiff, Nat.reduceAdd, Nat.reduceMul, Nat.reduceSub, Nat.reduceLeDiff, ↓reduceIte, reduceCtorEq, Int.reduceAdd, Int.reduceSub, Int.reduceMul, Int.reduceNeg, Int.reduceToNat, List.reduceReplicate, String.reduceEq, h0, h6, dActs]
      have : i = l.length := by omega
      subst this
      rw [List.take_length] at hv
      exact OwnJ.fin hv ⟨rfl, rfl⟩

theorem puts_spec (G : Nat → DVal) (H : DHeap) (l : List Act) (hl : l.length ≤ 1000000000) : DCalls Tryd.prog G 25 [dActs l] H (DRet (dI64s (putsL l)) H) := by
  have hfl := flat_len dAct_length l
  refine dcalls_intro Tryd.func25 Tryd.call25 rfl (by kernel_rfl) ?_
  simp (disch := omega) only [go_sem, Nat.reduceEqDiff, Nat.reduceAdd, Nat.reduceMul, Nat.reduceSub, Nat.reduceLeDiff, ↓reduceIte, reduceCtorEq, Int.reduceAdd, Int.reduceSub, Int.reduceMul, Int.reduceNeg, Int.reduceToNat, List.reduceReplicate, String.reduceEq, dActs]
  obtain ⟨I, hI⟩ : ∃ I : Nat → (Nat → DVal) → DHeap → Prop, ∀ i env heap, I i env heap ↔ (env 6 = dActs l ∧ env 7 = dI l.length ∧ env 8 = dI i ∧ i ≤ l.length ∧ OwnJ H 2 1 (putsL (l.take i)).length ((putsL (l.take i)).map dI) (env 3) heap) := ⟨_, fun _ _ _ => Iff.rfl⟩
  refine DLoop.run I (fun i => l.length - i) 0 ((hI _ _ _).2 ?_) ?_
  · simp (disch := omega) only [go_sem, Nat.reduceEqDiff, Nat.reduceAdd, Nat.reduceMul, Nat.reduceSub, Nat.reduceLeDiff, ↓reduceIte, reduceCtorEq, Int.reduceAdd, Int.reduceSub, Int.reduceMul, Int.reduceNeg, Int.reduceToNat, List.reduceReplicate, String.reduceEq]
    (repeat' apply And.intro) <;> (try first | rfl | assumption | omega)
    exact OwnJ.nil _ _ (Sub.refl _)
  · rintro i env heap hi
    obtain ⟨h0, h7, h6, hil, hv⟩ := (hI _ _ _).1 hi
    by_cases hlt : i < l.length
    · have hget := flat_el dAct_length l i hlt
      have hxo : ((dAct l[i]).all fun x => x.one) = true := rfl
      have hxl : (dAct l[i]).length = 6 := rfl
      have hxt : (dAct l[i]).take 6 = dAct l[i] := rfl
      have hxd : (dAct l[i]).drop 6 = [] := rfl
      have hxc : (DVal.agg (dAct l[i])).cells = dAct l[i] := rfl
      have hx2 : (dAct l[i])[2]? = some (.int .u8 l[i].kind) := rfl
      have hx3 : (dAct l[i])[3]? = some (dI l[i].a) := rfl
      have hof := putsL_next hlt
      have hlen := putsL_len (l.take i)
      rw [List.length_take] at hlen
      simp (disch := omega) only [go_sem, Nat.reduceEqDiff, Nat.reduceAdd, Nat.reduceMul, Nat.reduceSub, Nat.reduceLeDiff, ↓reduceIte, reduceCtorEq, Int.reduceAdd, Int.reduceSub, Int.reduceMul, Int.reduceNeg, Int.reduceToNat, List.reduceReplicate, String.reduceEq, h0, h6, h7, dActs, hfl, hget]
      intro ra hra; dsimp only at hra
      have hv' := OwnJ.new hv hra (some (.cells (dAct l[i]) 37))
      by_cases c : l[i].kind = 1
      · simp (disch := omega) only [go_sem, Nat.reduceEqDiff, Nat.reduceAdd, Nat.reduceMul, Nat.reduceSub, Nat.reduceLeDiff, ↓reduceIte, reduceCtorEq, Int.reduceAdd, Int.reduceSub, Int.reduceMul, Int.reduceNeg, Int.reduceToNat, List.reduceReplicate, String.reduceEq, h0, h6, h7, hxl, hxt, hxd, hxo, hxc, hx2, hx3, c, List.append_nil]
        intro rb hrb; dsimp only at hrb
        simp (disch := omega) only [go_sem, Nat.reduceEqDiff, Nat.reduceAdd, Nat.reduceMul, Nat.reduceSub, Nat.reduceLeDiff, ↓reduceIte, reduceCtorEq, Int.reduceAdd, Int.reduceSub, Int.reduceMul, Int.reduceNeg, Int.reduceToNat, List.reduceReplicate, String.reduceEq, h0, h6, h7]
        refine OwnJ.append (m := 1) (bytes := 8) (OwnJ.new hv' hrb _) rfl (by omega) fun v2 H2 hv2 => ?_
        simp (disch := omega) only [go_sem, Nat.reduceEqDiff, Nat.reduceAdd, Nat.reduceMul, Nat.reduceSub, Nat.reduceLeDiff, ↓reduceIte, reduceCtorEq, Int.reduceAdd, Int.reduceSub, Int.reduceMul, Int.reduceNeg, Int.reduceToNat, List.reduceReplicate, String.reduceEq, h0, h6, h7]
        refine ⟨i + 1, _, GhostS.refl _, (hI _ _ _).2 ?_, by omega⟩
        simp (disch := omega) only [go_sem, Nat.reduceEqDiff, Nat.reduceAdd, Nat.reduceMul, Nat.reduceSub, Nat.reduceLeDiff, ↓reduceIte, reduceCtorEq, Int.reduceAdd, Int.reduceSub, Int.reduceMul, Int.reduceNeg, Int.reduceToNat, List.reduceReplicate, String.reduceEq, h0, h6, h7, dActs]
        (repeat' apply And.intro) <;> (try first | rfl | assumption | omega)
        rw [hof, if_pos c]; simpa using hv2
      · simp (disch := omega) only [go_sem, Nat.reduceEqDiff, Nat.reduceAdd, Nat.reduceMul, Nat.reduceSub, Nat.reduceLeDiff, ↓reduceIte, reduceCtorEq, Int.reduceAdd, Int.reduceSub, Int.reduceMul, Int.reduceNeg, Int.reduceToNat, List.reduceReplicate, String.reduceEq, h0, h6, h7, hxl, hxt, hxd, hxo, hxc, hx2, hx3, List.append_nil]
        refine ⟨i + 1, _, GhostS.refl _, (hI _ _ _).2 ?_, by omega⟩
        simp (disch := omega) only [go_sem, Nat.reduceEqDiff, Nat.reduceAdd, Nat.reduceMul, Nat.reduceSub, Nat.reduceLeDiff, ↓reduceIte, reduceCtorEq, Int.reduceAdd, Int.reduceSub, Int.reduceMul, Int.reduceNeg, Int.reduceToNat, List.reduceReplicate, String.reduceEq, h0, h6, h7, dActs]
        (repeat' apply And.intro) <;> (try first | rfl | assumption | omega)
        rw [hof, if_neg c, List.append_nil]; exact hv'
    · simp (disch := omega) only [go_sem, Nat.reduceEqDiff, Nat.reduceAdd, Nat.reduceMul, Nat.reduceSub, Nat.reduceLeDiff, ↓reduceIte, reduceCtorEq, Int.reduceAdd, Int.reduceSub, Int.reduceMul, Int.reduceNeg, Int.reduceToNat, List.reduceReplicate, String.reduceEq, h0, h6, h7]
      have : i = l.length := by omega
      subst this
      rw [List.take_length] at hv
      exact OwnJ.fin hv ⟨rfl, rfl⟩
end Go.Dl

-- Chapter 35: Actions.
namespace Go.Dl
open Go Go.Proofs
set_option maxRecDepth 10000

section
variable {H H' : DHeap} {e : TypeId} {size n : Nat} {cs : List DVal} {v : DVal}
theorem OwnJ.rebG {q : Nat} {o o' : DObj} (h : OwnJ H e size n cs v H') (hq : H q = some o) : OwnJ (upd H q (some o')) e size n cs v (upd H' q (some o')) := by
  rcases h with ⟨a, b, c, d⟩ | ⟨r, a, b, c, d, f⟩
  · exact .inl ⟨a, b, c, d.both _ _⟩
  · have : r ≠ q := fun e => by subst e; rw [hq] at a; cases a
    exact .inr ⟨r, by simp only [upd, if_neg this]; exact a, b, c, by simp only [upd, if_neg this]; exact d, f.both _ _⟩
theorem OwnJ.write {r : Nat} {cs' : List DVal} (h : OwnJ H e size n cs (.oslice size r 0 n n) H') (hl : cs'.length = cs.length) : OwnJ H e size n cs' (.oslice size r 0 n n) (upd H' r (some (.cells cs' e))) := by
  rcases h with ⟨_, _, c, _⟩ | ⟨r', a, b, c, d, f⟩
  · cases c
  · cases c
    exact .inr ⟨r, a, by rw [hl]; exact b, rfl, upd_same _ _ _, f.up a _⟩
theorem splice_app (pre post : List DVal) (k : Nat) (vs : List DVal) : splice (pre ++ post) (pre.length + k) vs = pre ++ splice post k vs := by
  have e1 : (pre ++ post).take (pre.length + k) = pre ++ post.take k := by
    rw [List.take_append, List.take_of_length_le (by omega), Nat.add_sub_cancel_left]
  have e2 : (pre ++ post).drop (pre.length + k + vs.length) = post.drop (k + vs.length) := by
    rw [Nat.add_assoc, List.drop_append, List.drop_of_length_le (by omega), Nat.add_sub_cancel_left, List.nil_append]
  unfold splice
  rw [e1, e2]
  simp
end

/-- What one act does: the actions that are over, the one that is open. -/
def actStep (prot : Int) (st : List Actn × Option Actn) (x : Act) : Option (List Actn × Option Actn) :=
  if x.a = prot then
    if x.kind = 22 then
      match st.2 with
      | some _ => none
      | none => some (st.1, some ⟨x.task, -1, x.time, x.time, false, true⟩)
    else if x.kind = 24 ∨ x.kind = 25 then
      match st.2 with
      | none => none
      | some y =>
        if y.task = x.task then
          if x.kind = 25 then some (st.1 ++ [{ y with to := x.time, opn := false }], none)
          else if x.n = x.task then some (st.1, some { y with entry := x.b })
          else some (st.1 ++ [{ y with to := x.time, opn := false, over := true }], some ⟨x.n, x.b, x.time, x.time, false, true⟩)
        else none
    else some st
  else some st
def actFold (prot : Int) : List Act → List Actn × Option Actn → Option (List Actn × Option Actn)
  | [], st => some st
  | x :: l, st => match actStep prot st x with | some st' => actFold prot l st' | none => none
def actionsD (l : List Act) (prot : Int) : List Actn × Int := match actFold prot l ([], none) with | some st => (st.1 ++ st.2.toList, 0) | none => ([], 350)
theorem actFold_step {prot : Int} {l : List Act} {i : Nat} (h : i < l.length) (st : List Actn × Option Actn) : actFold prot (l.drop i) st = match actStep prot st l[i] with | some st' => actFold prot (l.drop (i + 1)) st' | none => none := by
  rw [List.drop_eq_getElem_cons h, actFold]

/-- The begin of an action: the closure. -/
theorem begin_spec (G : Nat → DVal) {B H : DHeap} {cs : List DVal} {n ro rn : Nat} {v p : DVal} (task entry at' : Int) (hne : ro ≠ rn) (hn : n ≤ 1000000000)
    (hv : OwnJ B 43 6 n cs v H) (h1 : B ro = some (.cells [v] 39)) (h2 : B rn = some (.cells [p] 71)) :
    DCalls Tryd.prog G 45 [dI task, dI entry, dI at', .optr ro 0, .optr rn 0] H fun e H' => e = .ret (.tuple []) ∧ ∃ r B', OwnJ B' 43 6 (n + 1) (cs ++ dActn ⟨task, entry, at', at', false, true⟩) (.oslice 6 r 0 (n + 1) (n + 1)) H' ∧
      B' ro = some (.cells [.oslice 6 r 0 (n + 1) (n + 1)] 39) ∧ B' rn = some (.cells [.optr r (n * 6)] 71) ∧ (∀ b, b ≠ ro → b ≠ rn → B' b = B b) := by
  have k1 := OwnJ.keep hv h1
  have k2 := OwnJ.keep hv h2
  refine dcalls_intro Tryd.func45 Tryd.call45 rfl (by kernel_rfl) ?_
  simp (disch := omega) only [go_sem, Nat.reduceEqDiff, Nat.reduceAdd, Nat.reduceMul, Nat.reduceSub, Nat.reduceLeDiff, ↓reduceIte, reduceCtorEq, Int.reduceAdd, Int.reduceSub, Int.reduceMul, Int.reduceNeg, Int.reduceToNat, List.reduceReplicate, String.reduceEq, k1]
  intro rl hrl; dsimp only at hrl
  have d1 : ¬ ro = rl := fun e => by subst e; rw [k1] at hrl; cases hrl
  have d2 : ¬ rl = ro := fun e => d1 e.symm
  simp (disch := omega) only [go_sem, Nat.reduceEqDiff, Nat.reduceAdd, Nat.reduceMul, Nat.reduceSub, Nat.reduceLeDiff, ↓reduceIte, reduceCtorEq, Int.reduceAdd, Int.reduceSub, Int.reduceMul, Int.reduceNeg, Int.reduceToNat, List.reduceReplicate, String.reduceEq, k1, d1, d2]
  refine OwnJ.append (m := 1) (bytes := 40) (OwnJ.new hv hrl _) rfl (by omega) fun v2 H2 hv2 => ?_
  have k3 := OwnJ.keep hv2 h1
  have k4 := OwnJ.keep hv2 h2
  obtain ⟨r, hr, hcl, rfl, hc, hs⟩ := hv2.resolve_left fun h => by have := h.1; omega
  have d3 : ¬ ro = r := fun e => by subst e; rw [h1] at hr; cases hr
  have d4 : ¬ rn = r := fun e => by subst e; rw [h2] at hr; cases hr
  have d5 : ¬ r = ro := fun e => d3 e.symm
  have d6 : ¬ rn = ro := fun e => hne e.symm
  have hw : IntKind.i64.wrap (((n + 1 : Nat) : Int) - 1) = n := by rw [IntKind.wrap_i64]; omega
  have hlt : n < n + 1 := by omega
  simp (disch := omega) only [go_sem, Nat.reduceEqDiff, Nat.reduceAdd, Nat.reduceMul, Nat.reduceSub, Nat.reduceLeDiff, ↓reduceIte, reduceCtorEq, Int.reduceAdd, Int.reduceSub, Int.reduceMul, Int.reduceNeg, Int.reduceToNat, List.reduceReplicate, String.reduceEq, k3, k4, d3, d4, d5, d6, hw, hlt]
  refine DFin.refl ⟨rfl, r, upd (upd B ro (some (.cells [.oslice 6 r 0 (n + 1) (n + 1)] 39))) rn (some (.cells [.optr r (n * 6)] 71)), ?_, ?_, ?_, ?_⟩
  · have q1 : OwnJ B 43 6 (n + 1) (cs ++ dActn ⟨task, entry, at', at', false, true⟩) (.oslice 6 r 0 (n + 1) (n + 1)) H2 := .inr ⟨r, hr, hcl, rfl, hc, hs⟩
    exact OwnJ.rebG (OwnJ.rebG q1 h1) (by simp only [upd, if_neg d6]; exact h2)
  · simp [upd, hne]
  · simp [upd]
  · intro b e1 e2
    simp [upd, e1, e2]
end Go.Dl

-- Chapter 35: Actions of the program.
namespace Go.Dl
open Go Go.Proofs
set_option maxRecDepth 10000

theorem dActn_one (x : Actn) : ((dActn x).all (·.one)) = true := rfl
/-- The open action's cells are the last ones. -/
theorem last_set (d : List Actn) (y : Actn) (k : Nat) (v : DVal) (y' : Actn) (hk : splice (dActn y) k [v] = dActn y') : splice ((d ++ [y]).flatMap dActn) (d.length * 6 + k) [v] = (d ++ [y']).flatMap dActn := by
  rw [List.flatMap_append, List.flatMap_append, ← flat_len dActn_length d, splice_app]
  simp [hk]
theorem last_get (d : List Actn) (y : Actn) (k : Nat) (hk : k < 6) : ((d ++ [y]).flatMap dActn)[d.length * 6 + k]? = (dActn y)[k]? := by
  rw [List.flatMap_append, List.getElem?_append_right (by rw [flat_len dActn_length]; omega), flat_len dActn_length, Nat.add_sub_cancel_left]
  simp

def ActsInv (H : DHeap) (ro rn : Nat) (d : List Actn) (c : Option Actn) (heap : DHeap) : Prop :=
  ∃ B v p, Sub H B ∧ B ro = some (.cells [v] 39) ∧ B rn = some (.cells [p] 71) ∧ OwnJ B 43 6 (d ++ c.toList).length ((d ++ c.toList).flatMap dActn) v heap ∧
    (c = none → p = .nilPtr) ∧ ∀ y, c = some y → ∃ r, v = .oslice 6 r 0 (d ++ c.toList).length (d ++ c.toList).length ∧ p = .optr r (d.length * 6)

theorem actions_spec (G : Nat → DVal) (H : DHeap) (l : List Act) (prot : Int) (hl : l.length ≤ 100000000) :
    DCalls Tryd.prog G 18 [dActs l, dI prot] H (DRet (.tuple [.vslice ((actionsD l prot).1.flatMap dActn) (actionsD l prot).1.length, dI (actionsD l prot).2]) H) := by
  have hfl := flat_len dAct_length l
  refine dcalls_intro Tryd.func18 Tryd.call18 rfl (by kernel_rfl) ?_
  simp (disch := omega) only [go_sem, Nat.reduceEqDiff, Nat.reduceAdd, Nat.reduceMul, Nat.reduceSub, Nat.reduceLeDiff, ↓reduceIte, reduceCtorEq, Int.reduceAdd, Int.reduceSub, Int.reduceMul, Int.reduceNeg, Int.reduceToNat, List.reduceReplicate, String.reduceEq]
  intro ro hro; dsimp only at hro
  simp (disch := omega) only [go_sem, Nat.reduceEqDiff, Nat.reduceAdd, Nat.reduceMul, Nat.reduceSub, Nat.reduceLeDiff, ↓reduceIte, reduceCtorEq, Int.reduceAdd, Int.reduceSub, Int.reduceMul, Int.reduceNeg, Int.reduceToNat, List.reduceReplicate, String.reduceEq]
  intro rn hrn; dsimp only at hrn
  rw [upd_eq_none] at hrn
  have hne : ro ≠ rn := hrn.2.1
  have hne' : ¬ rn = ro := hrn.1
  simp (disch := omega) only [go_sem, Nat.reduceEqDiff, Nat.reduceAdd, Nat.reduceMul, Nat.reduceSub, Nat.reduceLeDiff, ↓reduceIte, reduceCtorEq, Int.reduceAdd, Int.reduceSub, Int.reduceMul, Int.reduceNeg, Int.reduceToNat, List.reduceReplicate, String.reduceEq, dActs]
  obtain ⟨I, hI⟩ : ∃ I : Nat × List Actn × Option Actn → (Nat → DVal) → DHeap → Prop, ∀ ix env heap, I ix env heap ↔ (env 1 = dI prot ∧ env 6 = .optr ro 0 ∧ env 7 = .optr rn 0 ∧ env 8 = .func (.func 45) [] [.optr ro 0, .optr rn 0] ∧ env 12 = dActs l ∧ env 13 = dI l.length ∧ env 14 = dI ix.1 ∧ ix.1 ≤ l.length ∧
      actFold prot (l.drop ix.1) ix.2 = actFold prot l ([], none) ∧ (ix.2.1 ++ ix.2.2.toList).length ≤ ix.1 ∧ ActsInv H ro rn ix.2.1 ix.2.2 heap) := ⟨_, fun _ _ _ => Iff.rfl⟩
  refine DLoop.run I (fun ix => l.length - ix.1) (0, [], none) ((hI _ _ _).2 ?_) ?_
  · simp (disch := omega) only [go_sem, Nat.reduceEqDiff, Nat.reduceAdd, Nat.reduceMul, Nat.reduceSub, Nat.reduceLeDiff, ↓reduceIte, reduceCtorEq, Int.reduceAdd, Int.reduceSub, Int.reduceMul, Int.reduceNeg, Int.reduceToNat, List.reduceReplicate, String.reduceEq]
    (repeat' apply And.intro) <;> (try first | rfl | assumption | omega)
    · exact Nat.le_refl _
    · exact ⟨_, .nilSlice, .nilPtr, ((Sub.refl H).up hro _).up hrn.2.2 _, by simp [upd, hne], by simp [upd], OwnJ.nil _ _ (Sub.refl _), fun _ => rfl, fun y h => by cases h⟩
  · rintro ⟨i, d, c⟩ env heap hi
    obtain ⟨h1, h6, h7, h8, h12, h13, h14, hil, hfo, hlen, B, v, p, hB, b1, b2, hv, hc0, hc1⟩ := (hI _ _ _).1 hi
    dsimp only at h14 hil hfo hlen b1 b2 hv hc0 hc1
    have k1 := OwnJ.keep hv b1
    have k2 := OwnJ.keep hv b2
    by_cases hlt : i < l.length
    · obtain ⟨x, hx⟩ : ∃ x, l[i] = x := ⟨_, rfl⟩
      have hget := flat_el dAct_length l i hlt
      have hst := actFold_step (prot := prot) hlt (d, c)
      rw [hx] at hget hst
      rw [hst] at hfo
      have hxo : ((dAct x).all fun x => x.one) = true := rfl
      have hxl : (dAct x).length = 6 := rfl
      have hxt : (dAct x).take 6 = dAct x := rfl
      have hxd : (dAct x).drop 6 = [] := rfl
      have hxc : (DVal.agg (dAct x)).cells = dAct x := rfl
      have hx0 : (dAct x)[0]? = some (dI x.time) := rfl
      have hx1 : (dAct x)[1]? = some (dI x.task) := rfl
      have hx2 : (dAct x)[2]? = some (.int .u8 x.kind) := rfl
      have hx3 : (dAct x)[3]? = some (dI x.a) := rfl
      have hx4 : (dAct x)[4]? = some (dI x.b) := rfl
      have hx5 : (dAct x)[5]? = some (dI x.n) := rfl
      simp (disch := omega) only [go_sem, Nat.reduceEqDiff, Nat.reduceAdd, Nat.reduceMul, Nat.reduceSub, Nat.reduceLeDiff, ↓reduceIte, reduceCtorEq, Int.reduceAdd, Int.reduceSub, Int.reduceMul, Int.reduceNeg, Int.reduceToNat, List.reduceReplicate, String.reduceEq, h12, h13, h14, dActs, hfl, hget]
      intro ra hra; dsimp only at hra
      have d1 : ¬ ro = ra := fun e => by subst e; rw [k1] at hra; cases hra
      have d2 : ¬ rn = ra := fun e => by subst e; rw [k2] at hra; cases hra
      have d3 : ¬ ra = ro := fun e => d1 e.symm
      have d4 : ¬ ra = rn := fun e => d2 e.symm
      have hBra : B ra = none := (OwnJ.sub hv).lo hra
      have hHra : H ra = none := hB.lo hBra
      have hv' := OwnJ.new hv hra (some (.cells (dAct x) 37))
      have hbad : actStep prot (d, c) x = none → ∀ heap', Sub H heap' → DFin (DRet (.tuple [.vslice ((actionsD l prot).1.flatMap dActn) (actionsD l prot).1.length, dI (actionsD l prot).2]) H) (.tuple [.nilSlice, dI 350]) heap' := fun hn heap' hs => by
        rw [hn] at hfo
        have : actionsD l prot = ([], 350) := by rw [actionsD, ← hfo]
        rw [this]
        exact DFin.sub hs (DFin.le (v' := .tuple [.vslice [] 0, dI 350]) (DLe.tuple (.cons .nil (.refl _))) (DFin.refl ⟨rfl, rfl⟩))
      have hsub : Sub H (upd heap ra (some (.cells (dAct x) 37))) := hB.trans (OwnJ.sub hv')
      by_cases ca : x.a = prot
      · by_cases k22 : x.kind = 22
        · cases c with
          | some y =>
            obtain ⟨r, rfl, rfl⟩ := hc1 y rfl
            simp (disch := omega) only [go_sem, Nat.reduceEqDiff, Nat.reduceAdd, Nat.reduceMul, Nat.reduceSub, Nat.reduceLeDiff, ↓reduceIte, reduceCtorEq, Int.reduceAdd, Int.reduceSub, Int.reduceMul, Int.reduceNeg, Int.reduceToNat, List.reduceReplicate, String.reduceEq, h1, h6, h7, h8, h12, h13, h14, hxl, hxt, hxd, hxo, hxc, hx0, hx1, hx2, hx3, hx4, hx5, List.append_nil, k1, k2, d1, d2, d3, d4, ca, k22]
            exact hbad (by simp [actStep, ca, k22]) _ hsub
          | none =>
            obtain rfl := hc0 rfl
            simp (disch := omega) only [go_sem, Nat.reduceEqDiff, Nat.reduceAdd, Nat.reduceMul, Nat.reduceSub, Nat.reduceLeDiff, ↓reduceIte, reduceCtorEq, Int.reduceAdd, Int.reduceSub, Int.reduceMul, Int.reduceNeg, Int.reduceToNat, List.reduceReplicate, String.reduceEq, h1, h6, h7, h8, h12, h13, h14, hxl, hxt, hxd, hxo, hxc, hx0, hx1, hx2, hx3, hx4, hx5, List.append_nil, k1, k2, d1, d2, d3, d4, ca, k22]
            simp only [Option.toList_none, List.append_nil] at hv' hlen
            refine (begin_spec G x.task (-1) x.time hne (by omega) hv' b1 b2).mono ?_
            rintro _ H2 ⟨rfl, r, B', q1, q2, q3, q4⟩
            have hs' : actStep prot (d, none) x = some (d, some ⟨x.task, -1, x.time, x.time, false, true⟩) := by simp [actStep, ca, k22]
            rw [hs'] at hfo
            simp (disch := omega) only [go_sem, Nat.reduceEqDiff, Nat.reduceAdd, Nat.reduceMul, Nat.reduceSub, Nat.reduceLeDiff, ↓reduceIte, reduceCtorEq, Int.reduceAdd, Int.reduceSub, Int.reduceMul, Int.reduceNeg, Int.reduceToNat, List.reduceReplicate, String.reduceEq, h1, h6, h7, h8, h12, h13, h14]
            refine ⟨(i + 1, d, some ⟨x.task, -1, x.time, x.time, false, true⟩), _, GhostS.refl _, (hI _ _ _).2 ?_, by dsimp only; omega⟩
            simp (disch := omega) only [go_sem, Nat.reduceEqDiff, Nat.reduceAdd, Nat.reduceMul, Nat.reduceSub, Nat.reduceLeDiff, ↓reduceIte, reduceCtorEq, Int.reduceAdd, Int.reduceSub, Int.reduceMul, Int.reduceNeg, Int.reduceToNat, List.reduceReplicate, String.reduceEq, h1, h6, h7, h8, h12, h13, h14, dActs]
            (repeat' apply And.intro) <;> (try first | rfl | assumption | omega)
            · simp; omega
            · refine ⟨B', _, _, fun b o hb => ?_, q2, q3, by simpa using q1, fun h => (by cases h), fun y h => ⟨r, by simp, rfl⟩⟩
              rw [q4 b (fun e => by subst e; rw [hro] at hb; cases hb) (fun e => by subst e; rw [hrn.2.2] at hb; cases hb)]
              exact hB b o hb
        · by_cases k2425 : x.kind = 24 ∨ x.kind = 25
          · cases c with
            | none =>
              obtain rfl := hc0 rfl
              have hb := hbad (by simp [actStep, ca, k22, k2425]) _ hsub
              rcases k2425 with k24 | k25
              · simp (disch := omega) only [go_sem, Nat.reduceEqDiff, Nat.reduceAdd, Nat.reduceMul, Nat.reduceSub, Nat.reduceLeDiff, ↓reduceIte, reduceCtorEq, Int.reduceAdd, Int.reduceSub, Int.reduceMul, Int.reduceNeg, Int.reduceToNat, List.reduceReplicate, String.reduceEq, h1, h6, h7, h8, h12, h13, h14, hxl, hxt, hxd, hxo, hxc, hx0, hx1, hx2, hx3, hx4, hx5, List.append_nil, k1, k2, d1, d2, d3, d4, ca, k24]
                refine dwp_draws (by kernel_rfl) (.take 0 (.take 1 (.take 2 (.take 3 (.take 4 (.take 5 (.take 6 (.take 7 (.take 8 (.take 9 (.take 10 .done))))))))))) (by kernel_rfl) ?_
                simp (disch := omega) only [go_sem, Nat.reduceEqDiff, Nat.reduceAdd, Nat.reduceMul, Nat.reduceSub, Nat.reduceLeDiff, ↓reduceIte, reduceCtorEq, Int.reduceAdd, Int.reduceSub, Int.reduceMul, Int.reduceNeg, Int.reduceToNat, List.reduceReplicate, String.reduceEq, h1, h6, h7, h8, h12, h13, h14, hxl, hxt, hxd, hxo, hxc, hx0, hx1, hx2, hx3, hx4, hx5, List.append_nil, k1, k2, d1, d2, d3, d4]
                exact hb
              · simp (disch := omega) only [go_sem, Nat.reduceEqDiff, Nat.reduceAdd, Nat.reduceMul, Nat.reduceSub, Nat.reduceLeDiff, ↓reduceIte, reduceCtorEq, Int.reduceAdd, Int.reduceSub, Int.reduceMul, Int.reduceNeg, Int.reduceToNat, List.reduceReplicate, String.reduceEq, h1, h6, h7, h8, h12, h13, h14, hxl, hxt, hxd, hxo, hxc, hx0, hx1, hx2, hx3, hx4, hx5, List.append_nil, k1, k2, d1, d2, d3, d4, ca, k25]
                refine dwp_draws (by kernel_rfl) (.take 0 (.take 1 (.take 2 (.take 3 (.take 4 (.take 5 (.take 6 (.take 7 (.take 8 (.take 9 (.take 10 .done))))))))))) (by kernel_rfl) ?_
                simp (disch := omega) only [go_sem, Nat.reduceEqDiff, Nat.reduceAdd, Nat.reduceMul, Nat.reduceSub, Nat.reduceLeDiff, ↓reduceIte, reduceCtorEq, Int.reduceAdd, Int.reduceSub, Int.reduceMul, Int.reduceNeg, Int.reduceToNat, List.reduceReplicate, String.reduceEq, h1, h6, h7, h8, h12, h13, h14, hxl, hxt, hxd, hxo, hxc, hx0, hx1, hx2, hx3, hx4, hx5, List.append_nil, k1, k2, d1, d2, d3, d4]
                exact hb
            | some y =>
              obtain ⟨r, rfl, rfl⟩ := hc1 y rfl
              simp only [Option.toList_some] at hv hv' hlen
              have hlen' : d.length + 1 ≤ i := by simpa using hlen
              obtain ⟨r', hrB, hcl, hre, kc, _⟩ := hv.resolve_left fun h => by have := h.1; simp at this
              cases hre
              have f1 : ¬ ro = r := fun e => by subst e; rw [b1] at hrB; cases hrB
              have f2 : ¬ rn = r := fun e => by subst e; rw [b2] at hrB; cases hrB
              have f3 : ¬ r = ro := fun e => f1 e.symm
              have f4 : ¬ r = rn := fun e => f2 e.symm
              have f5 : ¬ r = ra := fun e => by subst e; rw [kc] at hra; cases hra
              have f6 : ¬ ra = r := fun e => f5 e.symm
              have g0 : ((d ++ [y]).flatMap dActn)[d.length * 6]? = some (dI y.task) := last_get d y 0 (by omega)
              have hdl : ∀ z, ((d ++ [z]).flatMap dActn).length = d.length * 6 + 6 := fun z => by rw [flat_len dActn_length]; simp; omega
              have lw : ∀ z, OwnJ B 43 6 (d ++ [y]).length ((d ++ [z]).flatMap dActn) (.oslice 6 r 0 (d ++ [y]).length (d ++ [y]).length) (upd (upd heap ra (some (.cells (dAct x) 37))) r (some (.cells ((d ++ [z]).flatMap dActn) 43))) := fun z => OwnJ.write hv' (by rw [hdl, hdl])
              have s3 : splice ((d ++ [y]).flatMap dActn) (d.length * 6 + 3) [DVal.int .i64 x.time] = (d ++ [{ y with to := x.time }]).flatMap dActn := last_set d y 3 _ _ rfl
              have s5 : splice ((d ++ [{ y with to := x.time }]).flatMap dActn) (d.length * 6 + 5) [DVal.bool false] = (d ++ [{ y with to := x.time, opn := false }]).flatMap dActn := last_set d _ 5 _ _ rfl
              have s4 : splice ((d ++ [{ y with to := x.time, opn := false }]).flatMap dActn) (d.length * 6 + 4) [DVal.bool true] = (d ++ [{ y with to := x.time, opn := false, over := true }]).flatMap dActn := last_set d _ 4 _ _ rfl
              have s1 : splice ((d ++ [y]).flatMap dActn) (d.length * 6 + 1) [DVal.int .i64 x.b] = (d ++ [{ y with entry := x.b }]).flatMap dActn := last_set d y 1 _ _ rfl
              by_cases hty : y.task = x.task
              · rcases k2425 with k24 | k25
                · simp (disch := omega) only [go_sem, Nat.reduceEqDiff, Nat.reduceAdd, Nat.reduceMul, Nat.reduceSub, Nat.reduceLeDiff, ↓reduceIte, reduceCtorEq, Int.reduceAdd, Int.reduceSub, Int.reduceMul, Int.reduceNeg, Int.reduceToNat, List.reduceReplicate, String.reduceEq, h1, h6, h7, h8, h12, h13, h14, hxl, hxt, hxd, hxo, hxc, hx0, hx1, hx2, hx3, hx4, hx5, List.append_nil, k1, k2, d1, d2, d3, d4, ca, k24]
                  refine dwp_draws (by kernel_rfl) (.take 0 (.take 1 (.take 2 (.take 3 (.take 4 (.take 5 (.take 6 (.take 7 (.take 8 (.take 9 (.take 10 .done))))))))))) (by kernel_rfl) ?_
                  simp (disch := omega) only [go_sem, Nat.reduceEqDiff, Nat.reduceAdd, Nat.reduceMul, Nat.reduceSub, Nat.reduceLeDiff, ↓reduceIte, reduceCtorEq, Int.reduceAdd, Int.reduceSub, Int.reduceMul, Int.reduceNeg, Int.reduceToNat, List.reduceReplicate, String.reduceEq, h1, h6, h7, h8, h12, h13, h14, hxl, hxt, hxd, hxo, hxc, hx0, hx1, hx2, hx3, hx4, hx5, List.append_nil, k1, k2, d1, d2, d3, d4, kc, f1, f2, f3, f4, f5, f6, g0, hty, hdl, k24]
                  by_cases hn : x.n = x.task
                  · have hs' : actStep prot (d, some y) x = some (d, some { y with entry := x.b }) := by simp [actStep, ca, k24, hty, hn]
                    rw [hs'] at hfo
                    simp (disch := omega) only [go_sem, Nat.reduceEqDiff, Nat.reduceAdd, Nat.reduceMul, Nat.reduceSub, Nat.reduceLeDiff, ↓reduceIte, reduceCtorEq, Int.reduceAdd, Int.reduceSub, Int.reduceMul, Int.reduceNeg, Int.reduceToNat, List.reduceReplicate, String.reduceEq, h1, h6, h7, h8, h12, h13, h14, hxl, hxt, hxd, hxo, hxc, hx0, hx1, hx2, hx3, hx4, hx5, List.append_nil, k1, k2, d1, d2, d3, d4, kc, f1, f2, f3, f4, f5, f6, hn, hdl, s1]
                    refine ⟨(i + 1, d, some { y with entry := x.b }), _, GhostS.refl _, (hI _ _ _).2 ?_, by dsimp only; omega⟩
                    simp (disch := omega) only [go_sem, Nat.reduceEqDiff, Nat.reduceAdd, Nat.reduceMul, Nat.reduceSub, Nat.reduceLeDiff, ↓reduceIte, reduceCtorEq, Int.reduceAdd, Int.reduceSub, Int.reduceMul, Int.reduceNeg, Int.reduceToNat, List.reduceReplicate, String.reduceEq, h1, h6, h7, h8, h12, h13, h14, dActs]
                    (repeat' apply And.intro) <;> (try first | rfl | assumption | omega)
                    · simp; omega
                    · have q1 := lw { y with entry := x.b }
                      exact ⟨B, _, _, hB, b1, b2, by simpa using q1, fun h => (by cases h), fun z h => ⟨r, by simp, rfl⟩⟩
                  · have hs' : actStep prot (d, some y) x = some (d ++ [{ y with to := x.time, opn := false, over := true }], some ⟨x.n, x.b, x.time, x.time, false, true⟩) := by simp [actStep, ca, k24, hty, hn]
                    rw [hs'] at hfo
                    simp (disch := omega) only [go_sem, Nat.reduceEqDiff, Nat.reduceAdd, Nat.reduceMul, Nat.reduceSub, Nat.reduceLeDiff, ↓reduceIte, reduceCtorEq, Int.reduceAdd, Int.reduceSub, Int.reduceMul, Int.reduceNeg, Int.reduceToNat, List.reduceReplicate, String.reduceEq, h1, h6, h7, h8, h12, h13, h14, hxl, hxt, hxd, hxo, hxc, hx0, hx1, hx2, hx3, hx4, hx5, List.append_nil, k1, k2, d1, d2, d3, d4, kc, f1, f2, f3, f4, f5, f6, hn, hdl]
                    refine dwp_draws (by kernel_rfl) (.take 0 (.take 1 (.take 2 (.take 3 (.take 4 (.take 5 (.take 6 (.go 7 [2, 1] (.take 8 (.take 9 (.go 10 [2] (.take 11 (.take 12 (.go 13 [] .done)))))))))))))) (by kernel_rfl) ?_
                    simp (disch := omega) only [go_sem, Nat.reduceEqDiff, Nat.reduceAdd, Nat.reduceMul, Nat.reduceSub, Nat.reduceLeDiff, ↓reduceIte, reduceCtorEq, Int.reduceAdd, Int.reduceSub, Int.reduceMul, Int.reduceNeg, Int.reduceToNat, List.reduceReplicate, String.reduceEq, h1, h6, h7, h8, h12, h13, h14, hxl, hxt, hxd, hxo, hxc, hx0, hx1, hx2, hx3, hx4, hx5, List.append_nil, k1, k2, d1, d2, d3, d4, kc, f1, f2, f3, f4, f5, f6, hdl, s3, s5, s4]
                    refine (begin_spec G x.n x.b x.time hne (by simp; omega) (lw _) b1 b2).mono ?_
                    rintro _ H2 ⟨rfl, r2, B', q1, q2, q3, q4⟩
                    simp (disch := omega) only [go_sem, Nat.reduceEqDiff, Nat.reduceAdd, Nat.reduceMul, Nat.reduceSub, Nat.reduceLeDiff, ↓reduceIte, reduceCtorEq, Int.reduceAdd, Int.reduceSub, Int.reduceMul, Int.reduceNeg, Int.reduceToNat, List.reduceReplicate, String.reduceEq, h1, h6, h7, h8, h12, h13, h14]
                    refine ⟨(i + 1, d ++ [{ y with to := x.time, opn := false, over := true }], some ⟨x.n, x.b, x.time, x.time, false, true⟩), _, GhostS.refl _, (hI _ _ _).2 ?_, by dsimp only; omega⟩
                    simp (disch := omega) only [go_sem, Nat.reduceEqDiff, Nat.reduceAdd, Nat.reduceMul, Nat.reduceSub, Nat.reduceLeDiff, ↓reduceIte, reduceCtorEq, Int.reduceAdd, Int.reduceSub, Int.reduceMul, Int.reduceNeg, Int.reduceToNat, List.reduceReplicate, String.reduceEq, h1, h6, h7, h8, h12, h13, h14, dActs]
                    (repeat' apply And.intro) <;> (try first | rfl | assumption | omega)
                    · simp; omega
                    · refine ⟨B', _, _, fun b o hb => ?_, q2, q3, by simpa using q1, fun h => (by cases h), fun z h => ⟨r2, by simp, by simp⟩⟩
                      rw [q4 b (fun e => by subst e; rw [hro] at hb; cases hb) (fun e => by subst e; rw [hrn.2.2] at hb; cases hb)]
                      exact hB b o hb
                · have hs' : actStep prot (d, some y) x = some (d ++ [{ y with to := x.time, opn := false }], none) := by simp [actStep, ca, k25, hty]
                  rw [hs'] at hfo
                  simp (disch := omega) only [go_sem, Nat.reduceEqDiff, Nat.reduceAdd, Nat.reduceMul, Nat.reduceSub, Nat.reduceLeDiff, ↓reduceIte, reduceCtorEq, Int.reduceAdd, Int.reduceSub, Int.reduceMul, Int.reduceNeg, Int.reduceToNat, List.reduceReplicate, String.reduceEq, h1, h6, h7, h8, h12, h13, h14, hxl, hxt, hxd, hxo, hxc, hx0, hx1, hx2, hx3, hx4, hx5, List.append_nil, k1, k2, d1, d2, d3, d4, ca, k25]
                  refine dwp_draws (by kernel_rfl) (.take 0 (.take 1 (.take 2 (.take 3 (.take 4 (.take 5 (.take 6 (.take 7 (.take 8 (.take 9 (.take 10 .done))))))))))) (by kernel_rfl) ?_
                  simp (disch := omega) only [go_sem, Nat.reduceEqDiff, Nat.reduceAdd, Nat.reduceMul, Nat.reduceSub, Nat.reduceLeDiff, ↓reduceIte, reduceCtorEq, Int.reduceAdd, Int.reduceSub, Int.reduceMul, Int.reduceNeg, Int.reduceToNat, List.reduceReplicate, String.reduceEq, h1, h6, h7, h8, h12, h13, h14, hxl, hxt, hxd, hxo, hxc, hx0, hx1, hx2, hx3, hx4, hx5, List.append_nil, k1, k2, d1, d2, d3, d4, kc, f1, f2, f3, f4, f5, f6, g0, hty, hdl, k25]
                  refine dwp_draws (by kernel_rfl) (.take 0 (.take 1 (.take 2 (.take 3 (.take 4 (.take 5 (.go 6 [1] (.take 7 (.take 8 (.go 9 [] .done)))))))))) (by kernel_rfl) ?_
                  simp (disch := omega) only [go_sem, Nat.reduceEqDiff, Nat.reduceAdd, Nat.reduceMul, Nat.reduceSub, Nat.reduceLeDiff, ↓reduceIte, reduceCtorEq, Int.reduceAdd, Int.reduceSub, Int.reduceMul, Int.reduceNeg, Int.reduceToNat, List.reduceReplicate, String.reduceEq, h1, h6, h7, h8, h12, h13, h14, hxl, hxt, hxd, hxo, hxc, hx0, hx1, hx2, hx3, hx4, hx5, List.append_nil, k1, k2, d1, d2, d3, d4, kc, f1, f2, f3, f4, f5, f6, hdl, s3, s5]
                  refine ⟨(i + 1, d ++ [{ y with to := x.time, opn := false }], none), _, GhostS.refl _, (hI _ _ _).2 ?_, by dsimp only; omega⟩
                  simp (disch := omega) only [go_sem, Nat.reduceEqDiff, Nat.reduceAdd, Nat.reduceMul, Nat.reduceSub, Nat.reduceLeDiff, ↓reduceIte, reduceCtorEq, Int.reduceAdd, Int.reduceSub, Int.reduceMul, Int.reduceNeg, Int.reduceToNat, List.reduceReplicate, String.reduceEq, h1, h6, h7, h8, h12, h13, h14, dActs]
                  (repeat' apply And.intro) <;> (try first | rfl | assumption | omega)
                  · simp; omega
                  · have q1 := OwnJ.rebG (o' := .cells [.nilPtr] 71) (lw { y with to := x.time, opn := false }) b2
                    exact ⟨_, _, .nilPtr, hB.up hrn.2.2 _, by simp only [upd, if_neg hne]; exact b1, upd_same _ _ _, by simpa using q1, fun _ => rfl, fun z h => (by cases h)⟩
              · have hb := hbad (by simp [actStep, ca, k22, k2425, hty]) _ hsub
                rcases k2425 with k24 | k25
                · simp (disch := omega) only [go_sem, Nat.reduceEqDiff, Nat.reduceAdd, Nat.reduceMul, Nat.reduceSub, Nat.reduceLeDiff, ↓reduceIte, reduceCtorEq, Int.reduceAdd, Int.reduceSub, Int.reduceMul, Int.reduceNeg, Int.reduceToNat, List.reduceReplicate, String.reduceEq, h1, h6, h7, h8, h12, h13, h14, hxl, hxt, hxd, hxo, hxc, hx0, hx1, hx2, hx3, hx4, hx5, List.append_nil, k1, k2, d1, d2, d3, d4, ca, k24]
                  refine dwp_draws (by kernel_rfl) (.take 0 (.take 1 (.take 2 (.take 3 (.take 4 (.take 5 (.take 6 (.take 7 (.take 8 (.take 9 (.take 10 .done))))))))))) (by kernel_rfl) ?_
                  simp (disch := omega) only [go_sem, Nat.reduceEqDiff, Nat.reduceAdd, Nat.reduceMul, Nat.reduceSub, Nat.reduceLeDiff, ↓reduceIte, reduceCtorEq, Int.reduceAdd, Int.reduceSub, Int.reduceMul, Int.reduceNeg, Int.reduceToNat, List.reduceReplicate, String.reduceEq, h1, h6, h7, h8, h12, h13, h14, hxl, hxt, hxd, hxo, hxc, hx0, hx1, hx2, hx3, hx4, hx5, List.append_nil, k1, k2, d1, d2, d3, d4, kc, f1, f2, f3, f4, f5, f6, g0, hty, hdl, k24]
                  exact hb
                · simp (disch := omega) only [go_sem, Nat.reduceEqDiff, Nat.reduceAdd, Nat.reduceMul, Nat.reduceSub, Nat.reduceLeDiff, ↓reduceIte, reduceCtorEq, Int.reduceAdd, Int.reduceSub, Int.reduceMul, Int.reduceNeg, Int.reduceToNat, List.reduceReplicate, String.reduceEq, h1, h6, h7, h8, h12, h13, h14, hxl, hxt, hxd, hxo, hxc, hx0, hx1, hx2, hx3, hx4, hx5, List.append_nil, k1, k2, d1, d2, d3, d4, ca, k25]
                  refine dwp_draws (by kernel_rfl) (.take 0 (.take 1 (.take 2 (.take 3 (.take 4 (.take 5 (.take 6 (.take 7 (.take 8 (.take 9 (.take 10 .done))))))))))) (by kernel_rfl) ?_
                  simp (disch := omega) only [go_sem, Nat.reduceEqDiff, Nat.reduceAdd, Nat.reduceMul, Nat.reduceSub, Nat.reduceLeDiff, ↓reduceIte, reduceCtorEq, Int.reduceAdd, Int.reduceSub, Int.reduceMul, Int.reduceNeg, Int.reduceToNat, List.reduceReplicate, String.reduceEq, h1, h6, h7, h8, h12, h13, h14, hxl, hxt, hxd, hxo, hxc, hx0, hx1, hx2, hx3, hx4, hx5, List.append_nil, k1, k2, d1, d2, d3, d4, kc, f1, f2, f3, f4, f5, f6, g0, hty, hdl, k25]
                  exact hb
          · have k24 : ¬ x.kind = 24 := fun e => k2425 (.inl e)
            have k25 : ¬ x.kind = 25 := fun e => k2425 (.inr e)
            have hs' : actStep prot (d, c) x = some (d, c) := by simp [actStep, ca, k22, k24, k25]
            rw [hs'] at hfo
            simp (disch := omega) only [go_sem, Nat.reduceEqDiff, Nat.reduceAdd, Nat.reduceMul, Nat.reduceSub, Nat.reduceLeDiff, ↓reduceIte, reduceCtorEq, Int.reduceAdd, Int.reduceSub, Int.reduceMul, Int.reduceNeg, Int.reduceToNat, List.reduceReplicate, String.reduceEq, h1, h6, h7, h8, h12, h13, h14, hxl, hxt, hxd, hxo, hxc, hx2, hx3, List.append_nil, ca]
            refine ⟨(i + 1, d, c), _, GhostS.refl _, (hI _ _ _).2 ?_, by dsimp only; omega⟩
            simp (disch := omega) only [go_sem, Nat.reduceEqDiff, Nat.reduceAdd, Nat.reduceMul, Nat.reduceSub, Nat.reduceLeDiff, ↓reduceIte, reduceCtorEq, Int.reduceAdd, Int.reduceSub, Int.reduceMul, Int.reduceNeg, Int.reduceToNat, List.reduceReplicate, String.reduceEq, h1, h6, h7, h8, h12, h13, h14, dActs]
            (repeat' apply And.intro) <;> (try first | rfl | assumption | omega)
            exact ⟨B, v, p, hB, b1, b2, hv', hc0, hc1⟩
      · have hs' : actStep prot (d, c) x = some (d, c) := by simp [actStep, ca]
        rw [hs'] at hfo
        simp (disch := omega) only [go_sem, Nat.reduceEqDiff, Nat.reduceAdd, Nat.reduceMul, Nat.reduceSub, Nat.reduceLeDiff, ↓reduceIte, reduceCtorEq, Int.reduceAdd, Int.reduceSub, Int.reduceMul, Int.reduceNeg, Int.reduceToNat, List.reduceReplicate, String.reduceEq, h1, h6, h7, h8, h12, h13, h14, hxl, hxt, hxd, hxo, hxc, hx3, List.append_nil, ca]
        refine ⟨(i + 1, d, c), _, GhostS.refl _, (hI _ _ _).2 ?_, by dsimp only; omega⟩
        simp (disch := omega) only [go_sem, Nat.reduceEqDiff, Nat.reduceAdd, Nat.reduceMul, Nat.reduceSub, Nat.reduceLeDiff, ↓reduceIte, reduceCtorEq, Int.reduceAdd, Int.reduceSub, Int.reduceMul, Int.reduceNeg, Int.reduceToNat, List.reduceReplicate, String.reduceEq, h1, h6, h7, h8, h12, h13, h14, dActs]
        (repeat' apply And.intro) <;> (try first | rfl | assumption | omega)
        exact ⟨B, v, p, hB, b1, b2, hv', hc0, hc1⟩
    · have hi : i = l.length := by omega
      subst hi
      simp (disch := omega) only [go_sem, Nat.reduceEqDiff, Nat.reduceAdd, Nat.reduceMul, Nat.reduceSub, Nat.reduceLeDiff, ↓reduceIte, reduceCtorEq, Int.reduceAdd, Int.reduceSub, Int.reduceMul, Int.reduceNeg, Int.reduceToNat, List.reduceReplicate, String.reduceEq, h12, h13, h14, h6, h7, k1]
      rw [List.drop_length, actFold] at hfo
      have hD : actionsD l prot = (d ++ c.toList, 0) := by rw [actionsD, ← hfo]
      rw [hD]
      exact DFin.ghost (OwnJ.ghostT (OwnJ.less hv hB) (fun r cs => rfl)) (DFin.refl ⟨rfl, rfl⟩)
end Go.Dl

-- Chapter 35: Actions of the reference.
namespace Go.Dl
open Go Go.Proofs
set_option maxRecDepth 10000

theorem ractions_spec (G : Nat → DVal) (H : DHeap) (l : List Act) (prot : Int) (hl : l.length ≤ 100000000) :
    DCalls Tryd.prog G 21 [dActs l, dI prot] H (DRet (.tuple [.vslice ((actionsD l prot).1.flatMap dActn) (actionsD l prot).1.length, dI (actionsD l prot).2]) H) := by
  have hfl := flat_len dAct_length l
  refine dcalls_intro Tryd.func21 Tryd.call21 rfl (by kernel_rfl) ?_
  simp (disch := omega) only [go_sem, Nat.reduceEqDiff, Nat.reduceAdd, Nat.reduceMul, Nat.reduceSub, Nat.reduceLeDiff, ↓reduceIte, reduceCtorEq, Int.reduceAdd, Int.reduceSub, Int.reduceMul, Int.reduceNeg, Int.reduceToNat, List.reduceReplicate, String.reduceEq, dActs]
  obtain ⟨I, hI⟩ : ∃ I : Nat × List Actn × Option Actn → (Nat → DVal) → DHeap → Prop, ∀ ix env heap, I ix env heap ↔ (env 0 = dActs l ∧ env 1 = dI prot ∧ env 7 = .bool ix.2.2.isSome ∧ env 8 = dI ix.1 ∧ ix.1 ≤ l.length ∧
      actFold prot (l.drop ix.1) ix.2 = actFold prot l ([], none) ∧ (ix.2.1 ++ ix.2.2.toList).length ≤ ix.1 ∧ OwnJ H 43 6 (ix.2.1 ++ ix.2.2.toList).length ((ix.2.1 ++ ix.2.2.toList).flatMap dActn) (env 6) heap) := ⟨_, fun _ _ _ => Iff.rfl⟩
  refine DLoop.run I (fun ix => l.length - ix.1) (0, [], none) ((hI _ _ _).2 ?_) ?_
  · simp (disch := omega) only [go_sem, Nat.reduceEqDiff, Nat.reduceAdd, Nat.reduceMul, Nat.reduceSub, Nat.reduceLeDiff, ↓reduceIte, reduceCtorEq, Int.reduceAdd, Int.reduceSub, Int.reduceMul, Int.reduceNeg, Int.reduceToNat, List.reduceReplicate, String.reduceEq]
    (repeat' apply And.intro) <;> (try first | rfl | assumption | omega)
    · exact Nat.le_refl _
    · exact OwnJ.nil _ _ (Sub.refl _)
  · rintro ⟨i, d, c⟩ env heap hi
    obtain ⟨h0, h1, h7, h8, hil, hfo, hlen, hv⟩ := (hI _ _ _).1 hi
    dsimp only at h7 h8 hil hfo hlen hv
    by_cases hlt : i < l.length
    · obtain ⟨x, hx⟩ : ∃ x, l[i] = x := ⟨_, rfl⟩
      have hget := flat_el dAct_length l i hlt
      have hst := actFold_step (prot := prot) hlt (d, c)
      rw [hx] at hget hst
      rw [hst] at hfo
      have hxo : ((dAct x).all fun x => x.one) = true := rfl
      have hxl : (dAct x).length = 6 := rfl
      have hxt : (dAct x).take 6 = dAct x := rfl
      have hxd : (dAct x).drop 6 = [] := rfl
      have hxc : (DVal.agg (dAct x)).cells = dAct x := rfl
      have hx0 : (dAct x)[0]? = some (dI x.time) := rfl
      have hx1 : (dAct x)[1]? = some (dI x.task) := rfl
      have hx2 : (dAct x)[2]? = some (.int .u8 x.kind) := rfl
      have hx3 : (dAct x)[3]? = some (dI x.a) := rfl
      have hx4 : (dAct x)[4]? = some (dI x.b) := rfl
      have hx5 : (dAct x)[5]? = some (dI x.n) := rfl
      simp (disch := omega) only [go_sem, Nat.reduceEqDiff, Nat.reduceAdd, Nat.reduceMul, Nat.reduceSub, Nat.reduceLeDiff, ↓reduceIte, reduceCtorEq, Int.reduceAdd, Int.reduceSub, Int.reduceMul, Int.reduceNeg, Int.reduceToNat, List.reduceReplicate, String.reduceEq, h0, h8, dActs, hfl, hget]
      intro ra hra; dsimp only at hra
      have hHra : H ra = none := (OwnJ.sub hv).lo hra
      have hv' := OwnJ.new hv hra (some (.cells (dAct x) 37))
      have hlenE : ∀ {dst : Option Nat} {K : DK} {s : DS} {t : TypeId}, dLen dst (some (.slice t)) (env 6) K s = dput dst (dI (d ++ c.toList).length) K s := fun {_ _ _ _} => hv.len
      have hbad : actStep prot (d, c) x = none → ∀ heap', Sub H heap' → DFin (DRet (.tuple [.vslice ((actionsD l prot).1.flatMap dActn) (actionsD l prot).1.length, dI (actionsD l prot).2]) H) (.tuple [.nilSlice, dI 350]) heap' := fun hn heap' hs => by
        rw [hn] at hfo
        have : actionsD l prot = ([], 350) := by rw [actionsD, ← hfo]
        rw [this]
        exact DFin.sub hs (DFin.le (v' := .tuple [.vslice [] 0, dI 350]) (DLe.tuple (.cons .nil (.refl _))) (DFin.refl ⟨rfl, rfl⟩))
      have hsub : Sub H (upd heap ra (some (.cells (dAct x) 37))) := OwnJ.sub hv'
      have hw : IntKind.i64.wrap (((d ++ c.toList).length : Int) - 1) = ((d ++ c.toList).length : Int) - 1 := by rw [IntKind.wrap_i64]; omega
      by_cases ca : x.a = prot
      · by_cases k22 : x.kind = 22
        · cases c with
          | some y =>
            have h7' : env 7 = .bool true := h7
            simp (disch := omega) only [go_sem, Nat.reduceEqDiff, Nat.reduceAdd, Nat.reduceMul, Nat.reduceSub, Nat.reduceLeDiff, ↓reduceIte, reduceCtorEq, Int.reduceAdd, Int.reduceSub, Int.reduceMul, Int.reduceNeg, Int.reduceToNat, List.reduceReplicate, String.reduceEq, h0, h1, h8, hxl, hxt, hxd, hxo, hxc, hx0, hx1, hx2, hx3, hx4, hx5, List.append_nil, h7', hlenE, hw, ca, k22]
            exact hbad (by simp [actStep, ca, k22]) _ hsub
          | none =>
            have h7' : env 7 = .bool false := h7
            have hs' : actStep prot (d, none) x = some (d, some ⟨x.task, -1, x.time, x.time, false, true⟩) := by simp [actStep, ca, k22]
            rw [hs'] at hfo
            simp (disch := omega) only [go_sem, Nat.reduceEqDiff, Nat.reduceAdd, Nat.reduceMul, Nat.reduceSub, Nat.reduceLeDiff, ↓reduceIte, reduceCtorEq, Int.reduceAdd, Int.reduceSub, Int.reduceMul, Int.reduceNeg, Int.reduceToNat, List.reduceReplicate, String.reduceEq, h0, h1, h8, hxl, hxt, hxd, hxo, hxc, hx0, hx1, hx2, hx3, hx4, hx5, List.append_nil, h7', hlenE, hw, ca, k22]
            intro rb hrb; dsimp only at hrb
            simp (disch := omega) only [go_sem, Nat.reduceEqDiff, Nat.reduceAdd, Nat.reduceMul, Nat.reduceSub, Nat.reduceLeDiff, ↓reduceIte, reduceCtorEq, Int.reduceAdd, Int.reduceSub, Int.reduceMul, Int.reduceNeg, Int.reduceToNat, List.reduceReplicate, String.reduceEq, h0, h1, h8, hxl, hxt, hxd, hxo, hxc, hx0, hx1, hx2, hx3, hx4, hx5, List.append_nil]
            simp only [Option.toList_none, List.append_nil] at hv' hlen
            refine OwnJ.append (m := 1) (bytes := 40) (OwnJ.new hv' hrb _) rfl (by omega) fun v2 H2 hv2 => ?_
            simp (disch := omega) only [go_sem, Nat.reduceEqDiff, Nat.reduceAdd, Nat.reduceMul, Nat.reduceSub, Nat.reduceLeDiff, ↓reduceIte, reduceCtorEq, Int.reduceAdd, Int.reduceSub, Int.reduceMul, Int.reduceNeg, Int.reduceToNat, List.reduceReplicate, String.reduceEq, h0, h1, h8]
            refine ⟨(i + 1, d, some ⟨x.task, -1, x.time, x.time, false, true⟩), _, GhostS.refl _, (hI _ _ _).2 ?_, by dsimp only; omega⟩
            simp (disch := omega) only [go_sem, Nat.reduceEqDiff, Nat.reduceAdd, Nat.reduceMul, Nat.reduceSub, Nat.reduceLeDiff, ↓reduceIte, reduceCtorEq, Int.reduceAdd, Int.reduceSub, Int.reduceMul, Int.reduceNeg, Int.reduceToNat, List.reduceReplicate, String.reduceEq, h0, h1, h8, dActs]
            (repeat' apply And.intro) <;> (try first | rfl | assumption | omega)
            · simp; omega
            · simpa [dActn] using hv2
        · by_cases k2425 : x.kind = 24 ∨ x.kind = 25
          · cases c with
            | none =>
              have h7' : env 7 = .bool false := h7
              have hb := hbad (by simp [actStep, ca, k22, k2425]) _ hsub
              rcases k2425 with k24 | k25
              · simp (disch := omega) only [go_sem, Nat.reduceEqDiff, Nat.reduceAdd, Nat.reduceMul, Nat.reduceSub, Nat.reduceLeDiff, ↓reduceIte, reduceCtorEq, Int.reduceAdd, Int.reduceSub, Int.reduceMul, Int.reduceNeg, Int.reduceToNat, List.reduceReplicate, String.reduceEq, h0, h1, h8, hxl, hxt, hxd, hxo, hxc, hx0, hx1, hx2, hx3, hx4, hx5, List.append_nil, h7', hlenE, hw, ca, k24]
                refine dwp_draws (by kernel_rfl) (.take 0 (.take 1 (.take 2 (.take 3 (.take 4 (.take 5 (.take 6 (.take 7 (.take 8 (.take 9 (.take 10 (.take 11 .done)))))))))))) (by kernel_rfl) ?_
                simp (disch := omega) only [go_sem, Nat.reduceEqDiff, Nat.reduceAdd, Nat.reduceMul, Nat.reduceSub, Nat.reduceLeDiff, ↓reduceIte, reduceCtorEq, Int.reduceAdd, Int.reduceSub, Int.reduceMul, Int.reduceNeg, Int.reduceToNat, List.reduceReplicate, String.reduceEq, h0, h1, h8, hxl, hxt, hxd, hxo, hxc, hx0, hx1, hx2, hx3, hx4, hx5, List.append_nil, h7', hlenE, hw]
                exact hb
              · simp (disch := omega) only [go_sem, Nat.reduceEqDiff, Nat.reduceAdd, Nat.reduceMul, Nat.reduceSub, Nat.reduceLeDiff, ↓reduceIte, reduceCtorEq, Int.reduceAdd, Int.reduceSub, Int.reduceMul, Int.reduceNeg, Int.reduceToNat, List.reduceReplicate, String.reduceEq, h0, h1, h8, hxl, hxt, hxd, hxo, hxc, hx0, hx1, hx2, hx3, hx4, hx5, List.append_nil, h7', hlenE, hw, ca, k25]
                refine dwp_draws (by kernel_rfl) (.take 0 (.take 1 (.take 2 (.take 3 (.take 4 (.take 5 (.take 6 (.take 7 (.take 8 (.take 9 (.take 10 (.take 11 .done)))))))))))) (by kernel_rfl) ?_
                simp (disch := omega) only [go_sem, Nat.reduceEqDiff, Nat.reduceAdd, Nat.reduceMul, Nat.reduceSub, Nat.reduceLeDiff, ↓reduceIte, reduceCtorEq, Int.reduceAdd, Int.reduceSub, Int.reduceMul, Int.reduceNeg, Int.reduceToNat, List.reduceReplicate, String.reduceEq, h0, h1, h8, hxl, hxt, hxd, hxo, hxc, hx0, hx1, hx2, hx3, hx4, hx5, List.append_nil, h7', hlenE, hw]
                exact hb
            | some y =>
              have h7' : env 7 = .bool true := h7
              simp only [Option.toList_some] at hv hv' hlen hlenE hw
              have hlen' : d.length + 1 ≤ i := by simpa using hlen
              obtain ⟨r, hrB, hcl, h6, kc, _⟩ := hv.resolve_left fun h => by have := h.1; simp at this
              have f5 : ¬ r = ra := fun e => by subst e; rw [kc] at hra; cases hra
              have f6 : ¬ ra = r := fun e => f5 e.symm
              rw [h6] at hv'
              have g0 : ((d ++ [y]).flatMap dActn)[d.length * 6]? = some (dI y.task) := last_get d y 0 (by omega)
              have hdl : ∀ z, ((d ++ [z]).flatMap dActn).length = d.length * 6 + 6 := fun z => by rw [flat_len dActn_length]; simp; omega
              have lw : ∀ z, OwnJ H 43 6 (d ++ [y]).length ((d ++ [z]).flatMap dActn) (.oslice 6 r 0 (d ++ [y]).length (d ++ [y]).length) (upd (upd heap ra (some (.cells (dAct x) 37))) r (some (.cells ((d ++ [z]).flatMap dActn) 43))) := fun z => OwnJ.write hv' (by rw [hdl, hdl])
              have s3 : splice ((d ++ [y]).flatMap dActn) (d.length * 6 + 3) [DVal.int .i64 x.time] = (d ++ [{ y with to := x.time }]).flatMap dActn := last_set d y 3 _ _ rfl
              have s5 : splice ((d ++ [{ y with to := x.time }]).flatMap dActn) (d.length * 6 + 5) [DVal.bool false] = (d ++ [{ y with to := x.time, opn := false }]).flatMap dActn := last_set d _ 5 _ _ rfl
              have s4 : splice ((d ++ [{ y with to := x.time, opn := false }]).flatMap dActn) (d.length * 6 + 4) [DVal.bool true] = (d ++ [{ y with to := x.time, opn := false, over := true }]).flatMap dActn := last_set d _ 4 _ _ rfl
              have s1 : splice ((d ++ [y]).flatMap dActn) (d.length * 6 + 1) [DVal.int .i64 x.b] = (d ++ [{ y with entry := x.b }]).flatMap dActn := last_set d y 1 _ _ rfl
              have hnl : (d ++ [y]).length = d.length + 1 := by simp
              replace hw : IntKind.i64.wrap (((d ++ [y]).length : Int) - 1) = (d.length : Int) := by rw [hw]; omega
              have hw2 : d.length < (d ++ [y]).length := by omega
              have hixE : ∀ {dst : Option Nat} {K : DK} {s : DS}, dIndexAddr Tryd.prog dst (some (.slice 43)) (env 6) (.int .i64 (d.length : Int)) K s = dput dst (.optr r (d.length * 6)) K s := by
                intro dst K s
                rw [h6]
                simp (disch := omega) only [go_sem, Nat.reduceEqDiff, Nat.reduceAdd, Nat.reduceMul, Nat.reduceSub, Nat.reduceLeDiff, ↓reduceIte, reduceCtorEq, Int.reduceAdd, Int.reduceSub, Int.reduceMul, Int.reduceNeg, Int.reduceToNat, List.reduceReplicate, String.reduceEq, hw2]
              by_cases hty : y.task = x.task
              · rcases k2425 with k24 | k25
                · simp (disch := omega) only [go_sem, Nat.reduceEqDiff, Nat.reduceAdd, Nat.reduceMul, Nat.reduceSub, Nat.reduceLeDiff, ↓reduceIte, reduceCtorEq, Int.reduceAdd, Int.reduceSub, Int.reduceMul, Int.reduceNeg, Int.reduceToNat, List.reduceReplicate, String.reduceEq, h0, h1, h8, hxl, hxt, hxd, hxo, hxc, hx0, hx1, hx2, hx3, hx4, hx5, List.append_nil, h7', hlenE, hw, ca, k24]
                  refine dwp_draws (by kernel_rfl) (.take 0 (.take 1 (.take 2 (.take 3 (.take 4 (.take 5 (.take 6 (.take 7 (.take 8 (.take 9 (.take 10 (.take 11 .done)))))))))))) (by kernel_rfl) ?_
                  simp (disch := omega) only [go_sem, Nat.reduceEqDiff, Nat.reduceAdd, Nat.reduceMul, Nat.reduceSub, Nat.reduceLeDiff, ↓reduceIte, reduceCtorEq, Int.reduceAdd, Int.reduceSub, Int.reduceMul, Int.reduceNeg, Int.reduceToNat, List.reduceReplicate, String.reduceEq, h0, h1, h8, hxl, hxt, hxd, hxo, hxc, hx0, hx1, hx2, hx3, hx4, hx5, List.append_nil, hixE, h7', kc, f5, f6, g0, hty, hdl, k24, hw2]
                  by_cases hn : x.n = x.task
                  · have hs' : actStep prot (d, some y) x = some (d, some { y with entry := x.b }) := by simp [actStep, ca, k24, hty, hn]
                    rw [hs'] at hfo
                    simp (disch := omega) only [go_sem, Nat.reduceEqDiff, Nat.reduceAdd, Nat.reduceMul, Nat.reduceSub, Nat.reduceLeDiff, ↓reduceIte, reduceCtorEq, Int.reduceAdd, Int.reduceSub, Int.reduceMul, Int.reduceNeg, Int.reduceToNat, List.reduceReplicate, String.reduceEq, h0, h1, h8, hxl, hxt, hxd, hxo, hxc, hx0, hx1, hx2, hx3, hx4, hx5, List.append_nil, hixE, h7', kc, f5, f6, hn, hdl, s1, hw2]
                    refine ⟨(i + 1, d, some { y with entry := x.b }), _, GhostS.refl _, (hI _ _ _).2 ?_, by dsimp only; omega⟩
                    simp (disch := omega) only [go_sem, Nat.reduceEqDiff, Nat.reduceAdd, Nat.reduceMul, Nat.reduceSub, Nat.reduceLeDiff, ↓reduceIte, reduceCtorEq, Int.reduceAdd, Int.reduceSub, Int.reduceMul, Int.reduceNeg, Int.reduceToNat, List.reduceReplicate, String.reduceEq, h0, h1, h7', h8, dActs]
                    (repeat' apply And.intro) <;> (try first | rfl | assumption | omega)
                    · simp; omega
                    · have q1 := lw { y with entry := x.b }
                      rw [← h6] at q1
                      simpa using q1
                  · have hs' : actStep prot (d, some y) x = some (d ++ [{ y with to := x.time, opn := false, over := true }], some ⟨x.n, x.b, x.time, x.time, false, true⟩) := by simp [actStep, ca, k24, hty, hn]
                    rw [hs'] at hfo
                    simp (disch := omega) only [go_sem, Nat.reduceEqDiff, Nat.reduceAdd, Nat.reduceMul, Nat.reduceSub, Nat.reduceLeDiff, ↓reduceIte, reduceCtorEq, Int.reduceAdd, Int.reduceSub, Int.reduceMul, Int.reduceNeg, Int.reduceToNat, List.reduceReplicate, String.reduceEq, h0, h1, h8, hxl, hxt, hxd, hxo, hxc, hx0, hx1, hx2, hx3, hx4, hx5, List.append_nil, hixE, h7', kc, f5, f6, hn, hdl, hw2, s3, s5, s4, k24]
                    intro rb hrb; dsimp only at hrb
                    have f7 : ¬ r = rb := fun e => by subst e; simp [upd] at hrb
                    simp (disch := omega) only [go_sem, Nat.reduceEqDiff, Nat.reduceAdd, Nat.reduceMul, Nat.reduceSub, Nat.reduceLeDiff, ↓reduceIte, reduceCtorEq, Int.reduceAdd, Int.reduceSub, Int.reduceMul, Int.reduceNeg, Int.reduceToNat, List.reduceReplicate, String.reduceEq, h0, h1, h8, hxl, hxt, hxd, hxo, hxc, hx0, hx1, hx2, hx3, hx4, hx5, List.append_nil, f7]
                    have q1 := OwnJ.new (lw { y with to := x.time, opn := false, over := true }) hrb (some (.cells (dActn ⟨x.n, x.b, x.time, x.time, false, true⟩) 43))
                    rw [← h6] at q1
                    refine OwnJ.append (m := 1) (bytes := 40) q1 rfl (by omega) fun v2 H2 hv2 => ?_
                    simp (disch := omega) only [go_sem, Nat.reduceEqDiff, Nat.reduceAdd, Nat.reduceMul, Nat.reduceSub, Nat.reduceLeDiff, ↓reduceIte, reduceCtorEq, Int.reduceAdd, Int.reduceSub, Int.reduceMul, Int.reduceNeg, Int.reduceToNat, List.reduceReplicate, String.reduceEq, h0, h1, h7', h8]
                    refine ⟨(i + 1, d ++ [{ y with to := x.time, opn := false, over := true }], some ⟨x.n, x.b, x.time, x.time, false, true⟩), _, GhostS.refl _, (hI _ _ _).2 ?_, by dsimp only; omega⟩
                    simp (disch := omega) only [go_sem, Nat.reduceEqDiff, Nat.reduceAdd, Nat.reduceMul, Nat.reduceSub, Nat.reduceLeDiff, ↓reduceIte, reduceCtorEq, Int.reduceAdd, Int.reduceSub, Int.reduceMul, Int.reduceNeg, Int.reduceToNat, List.reduceReplicate, String.reduceEq, h0, h1, h7', h8, dActs]
                    (repeat' apply And.intro) <;> (try first | rfl | assumption | omega)
                    · simp; omega
                    · simpa [dActn] using hv2
                · have s5' : splice ((d ++ [{ y with task := x.task, to := x.time }]).flatMap dActn) (d.length * 6 + 5) [DVal.bool false] = (d ++ [{ y with task := x.task, to := x.time, opn := false }]).flatMap dActn := last_set d _ 5 _ _ rfl
                  have hs' : actStep prot (d, some y) x = some (d ++ [{ y with to := x.time, opn := false }], none) := by simp [actStep, ca, k25, hty]
                  rw [hs'] at hfo
                  simp (disch := omega) only [go_sem, Nat.reduceEqDiff, Nat.reduceAdd, Nat.reduceMul, Nat.reduceSub, Nat.reduceLeDiff, ↓reduceIte, reduceCtorEq, Int.reduceAdd, Int.reduceSub, Int.reduceMul, Int.reduceNeg, Int.reduceToNat, List.reduceReplicate, String.reduceEq, h0, h1, h8, hxl, hxt, hxd, hxo, hxc, hx0, hx1, hx2, hx3, hx4, hx5, List.append_nil, h7', hlenE, hw, ca, k25]
                  refine dwp_draws (by kernel_rfl) (.take 0 (.take 1 (.take 2 (.take 3 (.take 4 (.take 5 (.take 6 (.take 7 (.take 8 (.take 9 (.take 10 (.take 11 .done)))))))))))) (by kernel_rfl) ?_
                  simp (disch := omega) only [go_sem, Nat.reduceEqDiff, Nat.reduceAdd, Nat.reduceMul, Nat.reduceSub, Nat.reduceLeDiff, ↓reduceIte, reduceCtorEq, Int.reduceAdd, Int.reduceSub, Int.reduceMul, Int.reduceNeg, Int.reduceToNat, List.reduceReplicate, String.reduceEq, h0, h1, h8, hxl, hxt, hxd, hxo, hxc, hx0, hx1, hx2, hx3, hx4, hx5, List.append_nil, hixE, h7', kc, f5, f6, g0, hty, hdl, k25, hw2, s3, s5']
                  refine ⟨(i + 1, d ++ [{ y with to := x.time, opn := false }], none), _, GhostS.refl _, (hI _ _ _).2 ?_, by dsimp only; omega⟩
                  simp (disch := omega) only [go_sem, Nat.reduceEqDiff, Nat.reduceAdd, Nat.reduceMul, Nat.reduceSub, Nat.reduceLeDiff, ↓reduceIte, reduceCtorEq, Int.reduceAdd, Int.reduceSub, Int.reduceMul, Int.reduceNeg, Int.reduceToNat, List.reduceReplicate, String.reduceEq, h0, h1, h8, dActs]
                  (repeat' apply And.intro) <;> (try first | rfl | assumption | omega)
                  · simp; omega
                  · have q1 := lw { y with to := x.time, opn := false }
                    rw [← h6, hty] at q1
                    rw [hty]
                    simpa using q1
              · have hb := hbad (by simp [actStep, ca, k22, k2425, hty]) _ hsub
                rcases k2425 with k24 | k25
                · simp (disch := omega) only [go_sem, Nat.reduceEqDiff, Nat.reduceAdd, Nat.reduceMul, Nat.reduceSub, Nat.reduceLeDiff, ↓reduceIte, reduceCtorEq, Int.reduceAdd, Int.reduceSub, Int.reduceMul, Int.reduceNeg, Int.reduceToNat, List.reduceReplicate, String.reduceEq, h0, h1, h8, hxl, hxt, hxd, hxo, hxc, hx0, hx1, hx2, hx3, hx4, hx5, List.append_nil, h7', hlenE, hw, ca, k24]
                  refine dwp_draws (by kernel_rfl) (.take 0 (.take 1 (.take 2 (.take 3 (.take 4 (.take 5 (.take 6 (.take 7 (.take 8 (.take 9 (.take 10 (.take 11 .done)))))))))))) (by kernel_rfl) ?_
                  simp (disch := omega) only [go_sem, Nat.reduceEqDiff, Nat.reduceAdd, Nat.reduceMul, Nat.reduceSub, Nat.reduceLeDiff, ↓reduceIte, reduceCtorEq, Int.reduceAdd, Int.reduceSub, Int.reduceMul, Int.reduceNeg, Int.reduceToNat, List.reduceReplicate, String.reduceEq, h0, h1, h8, hxl, hxt, hxd, hxo, hxc, hx0, hx1, hx2, hx3, hx4, hx5, List.append_nil, hixE, h7', kc, f5, f6, g0, hty, hdl, k24, hw2]
                  exact hb
                · simp (disch := omega) only [go_sem, Nat.reduceEqDiff, Nat.reduceAdd, Nat.reduceMul, Nat.reduceSub, Nat.reduceLeDiff, ↓reduceIte, reduceCtorEq, Int.reduceAdd, Int.reduceSub, Int.reduceMul, Int.reduceNeg, Int.reduceToNat, List.reduceReplicate, String.reduceEq, h0, h1, h8, hxl, hxt, hxd, hxo, hxc, hx0, hx1, hx2, hx3, hx4, hx5, List.append_nil, h7', hlenE, hw, ca, k25]
                  refine dwp_draws (by kernel_rfl) (.take 0 (.take 1 (.take 2 (.take 3 (.take 4 (.take 5 (.take 6 (.take 7 (.take 8 (.take 9 (.take 10 (.take 11 .done)))))))))))) (by kernel_rfl) ?_
                  simp (disch := omega) only [go_sem, Nat.reduceEqDiff, Nat.reduceAdd, Nat.reduceMul, Nat.reduceSub, Nat.reduceLeDiff, ↓reduceIte, reduceCtorEq, Int.reduceAdd, Int.reduceSub, Int.reduceMul, Int.reduceNeg, Int.reduceToNat, List.reduceReplicate, String.reduceEq, h0, h1, h8, hxl, hxt, hxd, hxo, hxc, hx0, hx1, hx2, hx3, hx4, hx5, List.append_nil, hixE, h7', kc, f5, f6, g0, hty, hdl, k25, hw2]
                  exact hb
          · have k24 : ¬ x.kind = 24 := fun e => k2425 (.inl e)
            have k25 : ¬ x.kind = 25 := fun e => k2425 (.inr e)
            have hs' : actStep prot (d, c) x = some (d, c) := by simp [actStep, ca, k22, k24, k25]
            rw [hs'] at hfo
            simp (disch := omega) only [go_sem, Nat.reduceEqDiff, Nat.reduceAdd, Nat.reduceMul, Nat.reduceSub, Nat.reduceLeDiff, ↓reduceIte, reduceCtorEq, Int.reduceAdd, Int.reduceSub, Int.reduceMul, Int.reduceNeg, Int.reduceToNat, List.reduceReplicate, String.reduceEq, h0, h1, h8, hxl, hxt, hxd, hxo, hxc, hx0, hx1, hx2, hx3, hx4, hx5, List.append_nil, ca]
            refine ⟨(i + 1, d, c), _, GhostS.refl _, (hI _ _ _).2 ?_, by dsimp only; omega⟩
            simp (disch := omega) only [go_sem, Nat.reduceEqDiff, Nat.reduceAdd, Nat.reduceMul, Nat.reduceSub, Nat.reduceLeDiff, ↓reduceIte, reduceCtorEq, Int.reduceAdd, Int.reduceSub, Int.reduceMul, Int.reduceNeg, Int.reduceToNat, List.reduceReplicate, String.reduceEq, h0, h1, h7, h8, dActs]
            (repeat' apply And.intro) <;> (try first | rfl | assumption | omega)
      · have hs' : actStep prot (d, c) x = some (d, c) := by simp [actStep, ca]
        rw [hs'] at hfo
        simp (disch := omega) only [go_sem, Nat.reduceEqDiff, Nat.reduceAdd, Nat.reduceMul, Nat.reduceSub, Nat.reduceLeDiff, ↓reduceIte, reduceCtorEq, Int.reduceAdd, Int.reduceSub, Int.reduceMul, Int.reduceNeg, Int.reduceToNat, List.reduceReplicate, String.reduceEq, h0, h1, h8, hxl, hxt, hxd, hxo, hxc, hx0, hx1, hx2, hx3, hx4, hx5, List.append_nil, ca]
        refine ⟨(i + 1, d, c), _, GhostS.refl _, (hI _ _ _).2 ?_, by dsimp only; omega⟩
        simp (disch := omega) only [go_sem, Nat.reduceEqDiff, Nat.reduceAdd, Nat.reduceMul, Nat.reduceSub, Nat.reduceLeDiff, ↓reduceIte, reduceCtorEq, Int.reduceAdd, Int.reduceSub, Int.reduceMul, Int.reduceNeg, Int.reduceToNat, List.reduceReplicate, String.reduceEq, h0, h1, h7, h8, dActs]
        (repeat' apply And.intro) <;> (try first | rfl | assumption | omega)
    · have hi : i = l.length := by omega
      subst hi
      simp (disch := omega) only [go_sem, Nat.reduceEqDiff, Nat.reduceAdd, Nat.reduceMul, Nat.reduceSub, Nat.reduceLeDiff, ↓reduceIte, reduceCtorEq, Int.reduceAdd, Int.reduceSub, Int.reduceMul, Int.reduceNeg, Int.reduceToNat, List.reduceReplicate, String.reduceEq, h0, h8, dActs]
      rw [List.drop_length, actFold] at hfo
      have hD : actionsD l prot = (d ++ c.toList, 0) := by rw [actionsD, ← hfo]
      rw [hD]
      exact DFin.ghost (OwnJ.ghostT hv (fun r cs => rfl)) (DFin.refl ⟨rfl, rfl⟩)
end Go.Dl

-- Chapter 35: Jobs.
namespace Go.Dl
open Go Go.Proofs
set_option maxRecDepth 10000

def stepJ (st : List Jb × Jb × Int) (x : Act) : List Jb × Jb × Int :=
  if x.kind = 21 then (if st.2.2 = 1 then (st.1, { st.2.1 with wake := x.time }, 2) else (st.1, st.2.1, 0))
  else if x.kind = 20 ∨ x.kind = 10 then ((if st.2.2 = 2 then st.1 ++ [{ st.2.1 with done := x.time }] else st.1), ⟨x.a, 0, 0⟩, if x.kind = 20 then 1 else 0)
  else st
def jobsR : List Act → List Jb
  | [] => []
  | x :: r => match r with
    | y :: z :: _ => (if x.kind = 20 ∧ y.kind = 21 ∧ z.kind ≠ 21 then [⟨x.a, y.time, z.time⟩] else []) ++ jobsR r
    | _ => []
theorem jobsR_two (x y : Act) : jobsR [x, y] = [] := rfl
theorem jobsR_three (x y z : Act) (r : List Act) : jobsR (x :: y :: z :: r) = (if x.kind = 20 ∧ y.kind = 21 ∧ z.kind ≠ 21 then [⟨x.a, y.time, z.time⟩] else []) ++ jobsR (y :: z :: r) := rfl
theorem jobsR_skip {x : Act} (h : x.kind ≠ 20) : ∀ r, jobsR (x :: r) = jobsR r
  | [] => rfl
  | [y] => rfl
  | y :: z :: r => by rw [jobsR_three, if_neg (fun k => h k.1), List.nil_append]
theorem jobsR_skip2 {x y : Act} (h : y.kind ≠ 21) : ∀ r, jobsR (x :: y :: r) = jobsR (y :: r)
  | [] => rfl
  | z :: r => by rw [jobsR_three, if_neg (fun k => h k.2.1), List.nil_append]

theorem fold_jobs : ∀ (m : List Act), (∀ z ∈ m, z.kind = 20 ∨ z.kind = 21 ∨ z.kind = 10) → ∀ (out : List Jb) (j : Jb),
    (m.foldl stepJ (out, j, 0)).1 = out ++ jobsR m ∧
    (∀ x : Act, x.kind = 20 → j.release = x.a → (m.foldl stepJ (out, j, 1)).1 = out ++ jobsR (x :: m)) ∧
    (∀ x y : Act, x.kind = 20 → y.kind = 21 → j.release = x.a → j.wake = y.time → (m.foldl stepJ (out, j, 2)).1 = out ++ jobsR (x :: y :: m))
  | [], _, out, j => by simp [jobsR]
  | z :: m, hk, out, j => by
    have ih := fold_jobs m fun z hz => hk z (by simp [hz])
    rcases hk z (by simp) with k | k | k
    · refine ⟨?_, fun x hx hr => ?_, fun x y hx hy hr hw => ?_⟩
      · rw [List.foldl_cons, show stepJ (out, j, 0) z = (out, ⟨z.a, 0, 0⟩, 1) by simp [stepJ, k]]
        exact (ih out ⟨z.a, 0, 0⟩).2.1 z k rfl
      · rw [List.foldl_cons, show stepJ (out, j, 1) z = (out, ⟨z.a, 0, 0⟩, 1) by simp [stepJ, k], jobsR_skip2 (by omega)]
        exact (ih out ⟨z.a, 0, 0⟩).2.1 z k rfl
      · rw [List.foldl_cons, show stepJ (out, j, 2) z = (out ++ [{ j with done := z.time }], ⟨z.a, 0, 0⟩, 1) by simp [stepJ, k], jobsR_three, if_pos ⟨hx, hy, by omega⟩, jobsR_skip (by omega), (ih _ ⟨z.a, 0, 0⟩).2.1 z k rfl]
        cases j; simp only at hr hw; subst hr hw; simp
    · refine ⟨?_, fun x hx hr => ?_, fun x y hx hy hr hw => ?_⟩
      · rw [List.foldl_cons, show stepJ (out, j, 0) z = (out, j, 0) by simp [stepJ, k], jobsR_skip (by omega)]
        exact (ih out j).1
      · rw [List.foldl_cons, show stepJ (out, j, 1) z = (out, { j with wake := z.time }, 2) by simp [stepJ, k]]
        exact (ih out _).2.2 x z hx k hr rfl
      · rw [List.foldl_cons, show stepJ (out, j, 2) z = (out, j, 0) by simp [stepJ, k], jobsR_three, if_neg (fun q => q.2.2 k), List.nil_append, jobsR_skip (by omega), jobsR_skip (by omega)]
        exact (ih out j).1
    · refine ⟨?_, fun x hx hr => ?_, fun x y hx hy hr hw => ?_⟩
      · rw [List.foldl_cons, show stepJ (out, j, 0) z = (out, ⟨z.a, 0, 0⟩, 0) by simp [stepJ, k], jobsR_skip (by omega)]
        exact (ih out _).1
      · rw [List.foldl_cons, show stepJ (out, j, 1) z = (out, ⟨z.a, 0, 0⟩, 0) by simp [stepJ, k], jobsR_skip2 (by omega), jobsR_skip (by omega)]
        exact (ih out _).1
      · rw [List.foldl_cons, show stepJ (out, j, 2) z = (out ++ [{ j with done := z.time }], ⟨z.a, 0, 0⟩, 0) by simp [stepJ, k], jobsR_three, if_pos ⟨hx, hy, by omega⟩, jobsR_skip (by omega), jobsR_skip (by omega), (ih _ ⟨z.a, 0, 0⟩).1]
        cases j; simp only at hr hw; subst hr hw; simp

def jobKind (x : Act) : Bool := decide (x.kind = 20 ∨ x.kind = 21 ∨ x.kind = 10)
def ownJobs (l : List Act) (t : Int) : List Act := l.filter fun x => decide (x.task = t) && jobKind x
def jobsL (l : List Act) (t : Int) : List Jb := jobsR (ownJobs l t)
theorem fold_filter (m : List Act) : ∀ st, m.foldl stepJ st = (m.filter jobKind).foldl stepJ st := by
  induction m with
  | nil => intro st; rfl
  | cons x m ih =>
    intro st
    cases h : jobKind x with
    | true => rw [List.filter_cons_of_pos h, List.foldl_cons, List.foldl_cons, ih]
    | false =>
      rw [List.filter_cons_of_neg (by simp [h]), List.foldl_cons, ih]
      congr 1
      simp only [jobKind, decide_eq_false_iff_not, not_or] at h
      simp [stepJ, h.1, h.2.1, h.2.2]
theorem jobs_fold (l : List Act) (t : Int) (j : Jb) : ((ofL l t).foldl stepJ ([], j, 0)).1 = jobsL l t := by
  rw [fold_filter]
  have e : (ofL l t).filter jobKind = ownJobs l t := by
    rw [ofL, List.filter_filter, ownJobs]; congr 1; funext x; rw [Bool.and_comm]
  rw [e, (fold_jobs _ (fun z hz => by
    have := (List.mem_filter.1 hz).2
    simp only [jobKind, Bool.and_eq_true, decide_eq_true_eq] at this
    exact this.2) [] j).1, List.nil_append]; rfl
theorem fold_out_len (m : List Act) : ∀ st, ((m.foldl stepJ st).1).length ≤ st.1.length + m.length := by
  induction m with
  | nil => intro st; simp
  | cons x m ih =>
    intro st
    rw [List.foldl_cons]
    refine Nat.le_trans (ih _) ?_
    have : (stepJ st x).1.length ≤ st.1.length + 1 := by
      unfold stepJ
      split
      · split <;> simp
      · split
        · dsimp only; split <;> simp
        · simp
    rw [List.length_cons]; omega
end Go.Dl

-- Chapter 35: Jobs of both sides.
namespace Go.Dl
open Go Go.Proofs
set_option maxRecDepth 10000

def dJbs (l : List Jb) : DVal := .vslice (l.flatMap dJb) l.length
theorem ofL_len (l : List Act) (t : Int) : (ofL l t).length ≤ l.length := List.length_filter_le _ _
theorem foldl_take {α β : Type} (f : β → α → β) (b : β) (l : List α) (i : Nat) (h : i < l.length) : (l.take (i + 1)).foldl f b = f ((l.take i).foldl f b) l[i] := by
  rw [List.take_succ_eq_append_getElem h, List.foldl_append]; rfl

theorem jobs_spec (G : Nat → DVal) (H : DHeap) (l : List Act) (t : Int) (hl : l.length ≤ 100000000) :
    DCalls Tryd.prog G 29 [dActs l, dI t] H (DRet (dJbs (jobsL l t)) H) := by
  have hjf := jobs_fold l t ⟨0, 0, 0⟩
  have hml := ofL_len l t
  refine dcalls_intro Tryd.func29 Tryd.call29 rfl (by kernel_rfl) ?_
  simp (disch := omega) only [go_sem, Nat.reduceEqDiff, Nat.reduceAdd, Nat.reduceMul, Nat.reduceSub, Nat.reduceLeDiff, ↓reduceIte, reduceCtorEq, Int.reduceAdd, Int.reduceSub, Int.reduceMul, Int.reduceNeg, Int.reduceToNat, List.reduceReplicate, String.reduceEq]
  intro rj hrj; dsimp only at hrj
  simp (disch := omega) only [go_sem, Nat.reduceEqDiff, Nat.reduceAdd, Nat.reduceMul, Nat.reduceSub, Nat.reduceLeDiff, ↓reduceIte, reduceCtorEq, Int.reduceAdd, Int.reduceSub, Int.reduceMul, Int.reduceNeg, Int.reduceToNat, List.reduceReplicate, String.reduceEq]
  refine (of_spec G _ l t (by omega)).mono ?_
  rintro _ H0 ⟨rfl, rfl⟩
  generalize ofL l t = m at hjf hml
  have hfl := flat_len dAct_length m
  simp (disch := omega) only [go_sem, Nat.reduceEqDiff, Nat.reduceAdd, Nat.reduceMul, Nat.reduceSub, Nat.reduceLeDiff, ↓reduceIte, reduceCtorEq, Int.reduceAdd, Int.reduceSub, Int.reduceMul, Int.reduceNeg, Int.reduceToNat, List.reduceReplicate, String.reduceEq, dActs]
  obtain ⟨I, hI⟩ : ∃ I : Nat → (Nat → DVal) → DHeap → Prop, ∀ i env heap, I i env heap ↔ (env 6 = .optr rj 0 ∧ env 12 = dActs m ∧ env 13 = dI m.length ∧ env 14 = dI i ∧ i ≤ m.length ∧ ∃ out job hv, (m.take i).foldl stepJ ([], ⟨0, 0, 0⟩, 0) = (out, job, hv) ∧ env 7 = dI hv ∧ out.length ≤ i ∧
      ∃ B, Sub H B ∧ B rj = some (.cells (dJb job) 56) ∧ OwnJ B 56 3 out.length (out.flatMap dJb) (env 5) heap) := ⟨_, fun _ _ _ => Iff.rfl⟩
  refine DLoop.run I (fun i => m.length - i) 0 ((hI _ _ _).2 ?_) ?_
  · simp (disch := omega) only [go_sem, Nat.reduceEqDiff, Nat.reduceAdd, Nat.reduceMul, Nat.reduceSub, Nat.reduceLeDiff, ↓reduceIte, reduceCtorEq, Int.reduceAdd, Int.reduceSub, Int.reduceMul, Int.reduceNeg, Int.reduceToNat, List.reduceReplicate, String.reduceEq]
    (repeat' apply And.intro) <;> (try first | rfl | assumption | omega)
    exact ⟨[], ⟨0, 0, 0⟩, 0, rfl, rfl, Nat.le_refl _, _, (Sub.refl H).up hrj _, upd_same _ _ _, OwnJ.nil _ _ (Sub.refl _)⟩
  · rintro i env heap hi
    obtain ⟨h6, h12, h13, h14, him, out, job, hv, hfo, h7, hol, B, hB, bj, hw⟩ := (hI _ _ _).1 hi
    have kj := OwnJ.keep hw bj
    by_cases hlt : i < m.length
    · have hfs := foldl_take stepJ ([], ⟨0, 0, 0⟩, 0) m i hlt
      rw [hfo] at hfs
      have hget := flat_el dAct_length m i hlt
      obtain ⟨x, hx⟩ : ∃ x, m[i] = x := ⟨_, rfl⟩
      rw [hx] at hfs hget
      have hxo : ((dAct x).all fun x => x.one) = true := rfl
      have hxl : (dAct x).length = 6 := rfl
      have hxt : (dAct x).take 6 = dAct x := rfl
      have hxd : (dAct x).drop 6 = [] := rfl
      have hxc : (DVal.agg (dAct x)).cells = dAct x := rfl
      have hx0 : (dAct x)[0]? = some (dI x.time) := rfl
      have hx2 : (dAct x)[2]? = some (.int .u8 x.kind) := rfl
      have hx3 : (dAct x)[3]? = some (dI x.a) := rfl
      simp (disch := omega) only [go_sem, Nat.reduceEqDiff, Nat.reduceAdd, Nat.reduceMul, Nat.reduceSub, Nat.reduceLeDiff, ↓reduceIte, reduceCtorEq, Int.reduceAdd, Int.reduceSub, Int.reduceMul, Int.reduceNeg, Int.reduceToNat, List.reduceReplicate, String.reduceEq, h12, h13, h14, dActs, hfl, hget]
      intro ra hra; dsimp only at hra
      have d1 : ¬ rj = ra := fun e => by subst e; rw [kj] at hra; cases hra
      have d2 : ¬ ra = rj := fun e => d1 e.symm
      have hBra : B ra = none := (OwnJ.sub hw).lo hra
      have hw' := OwnJ.frame hw hra (.cells (dAct x) 37)
      have bj' : upd B ra (some (.cells (dAct x) 37)) rj = some (.cells (dJb job) 56) := by simp only [upd, if_neg d1]; exact bj
      have hls : ∀ o, Sub (upd B rj o) (upd (upd B ra (some (.cells (dAct x) 37))) rj o) := fun o => Sub.both ((Sub.refl B).up hBra _) _ _
      by_cases k21 : x.kind = 21
      · by_cases h1 : hv = 1
        · subst h1
          rw [show stepJ (out, job, 1) x = (out, { job with wake := x.time }, 2) by simp [stepJ, k21]] at hfs
          simp (disch := omega) only [go_sem, Nat.reduceEqDiff, Nat.reduceAdd, Nat.reduceMul, Nat.reduceSub, Nat.reduceLeDiff, ↓reduceIte, reduceCtorEq, Int.reduceAdd, Int.reduceSub, Int.reduceMul, Int.reduceNeg, Int.reduceToNat, List.reduceReplicate, String.reduceEq, h6, h7, h12, h13, h14, hxl, hxt, hxd, hxo, hxc, hx0, hx2, hx3, List.append_nil, kj, d1, d2, k21, dJb]
          refine ⟨i + 1, _, GhostS.refl _, (hI _ _ _).2 ?_, by omega⟩
          simp (disch := omega) only [go_sem, Nat.reduceEqDiff, Nat.reduceAdd, Nat.reduceMul, Nat.reduceSub, Nat.reduceLeDiff, ↓reduceIte, reduceCtorEq, Int.reduceAdd, Int.reduceSub, Int.reduceMul, Int.reduceNeg, Int.reduceToNat, List.reduceReplicate, String.reduceEq, h6, h12, h13, h14, dActs]
          (repeat' apply And.intro) <;> (try first | rfl | assumption | omega)
          exact ⟨out, _, 2, hfs, rfl, by omega, _, hB.up hrj _, upd_same _ _ _, OwnJ.less (OwnJ.rebG hw' bj') (hls _)⟩
        · rw [show stepJ (out, job, hv) x = (out, job, 0) by simp [stepJ, k21, h1]] at hfs
          simp (disch := omega) only [go_sem, Nat.reduceEqDiff, Nat.reduceAdd, Nat.reduceMul, Nat.reduceSub, Nat.reduceLeDiff, ↓reduceIte, reduceCtorEq, Int.reduceAdd, Int.reduceSub, Int.reduceMul, Int.reduceNeg, Int.reduceToNat, List.reduceReplicate, String.reduceEq, h6, h7, h12, h13, h14, hxl, hxt, hxd, hxo, hxc, hx0, hx2, hx3, List.append_nil, kj, d1, d2, k21, h1]
          refine ⟨i + 1, _, GhostS.refl _, (hI _ _ _).2 ?_, by omega⟩
          simp (disch := omega) only [go_sem, Nat.reduceEqDiff, Nat.reduceAdd, Nat.reduceMul, Nat.reduceSub, Nat.reduceLeDiff, ↓reduceIte, reduceCtorEq, Int.reduceAdd, Int.reduceSub, Int.reduceMul, Int.reduceNeg, Int.reduceToNat, List.reduceReplicate, String.reduceEq, h6, h12, h13, h14, dActs]
          (repeat' apply And.intro) <;> (try first | rfl | assumption | omega)
          exact ⟨out, job, 0, hfs, rfl, by omega, B, hB, bj, OwnJ.less hw' ((Sub.refl B).up hBra _)⟩
      · by_cases k2 : x.kind = 20 ∨ x.kind = 10
        · have fin : ∀ (out' : List Jb) (hv' : Int) heap' v, out'.length ≤ i + 1 → stepJ (out, job, hv) x = (out', ⟨x.a, 0, 0⟩, hv') → OwnJ (upd (upd B ra (some (.cells (dAct x) 37))) rj (some (.cells (dJb ⟨x.a, 0, 0⟩) 56))) 56 3 out'.length (out'.flatMap dJb) v heap' →
              ∃ out job hv, (m.take (i + 1)).foldl stepJ ([], ⟨0, 0, 0⟩, 0) = (out, job, hv) ∧ dI hv' = dI hv ∧ out.length ≤ i + 1 ∧ ∃ B, Sub H B ∧ B rj = some (.cells (dJb job) 56) ∧ OwnJ B 56 3 out.length (out.flatMap dJb) v heap' := fun out' hv' heap' v hl hs ho =>
            ⟨out', ⟨x.a, 0, 0⟩, hv', by rw [hfs, hs], rfl, hl, _, hB.up hrj _, upd_same _ _ _, OwnJ.less ho (hls _)⟩
          by_cases h2 : hv = 2
          · subst h2
            rcases k2 with k | k
            · have hs : stepJ (out, job, 2) x = (out ++ [{ job with done := x.time }], ⟨x.a, 0, 0⟩, 1) := by simp [stepJ, k]
              simp (disch := omega) only [go_sem, Nat.reduceEqDiff, Nat.reduceAdd, Nat.reduceMul, Nat.reduceSub, Nat.reduceLeDiff, ↓reduceIte, reduceCtorEq, Int.reduceAdd, Int.reduceSub, Int.reduceMul, Int.reduceNeg, Int.reduceToNat, List.reduceReplicate, String.reduceEq, h6, h7, h12, h13, h14, hxl, hxt, hxd, hxo, hxc, hx0, hx2, hx3, List.append_nil, kj, d1, d2, k, dJb]
              intro rb hrb; dsimp only at hrb
              have d3 : ¬ rj = rb := fun e => by subst e; rw [upd_same] at hrb; cases hrb
              have d4 : ¬ rb = rj := fun e => d3 e.symm
              have hw2 := OwnJ.new (OwnJ.rebG (o' := .cells (dJb { job with done := x.time }) 56) hw' bj') hrb (some (.cells (dJb { job with done := x.time }) 56))
              simp (disch := omega) only [go_sem, Nat.reduceEqDiff, Nat.reduceAdd, Nat.reduceMul, Nat.reduceSub, Nat.reduceLeDiff, ↓reduceIte, reduceCtorEq, Int.reduceAdd, Int.reduceSub, Int.reduceMul, Int.reduceNeg, Int.reduceToNat, List.reduceReplicate, String.reduceEq, d3, d4]
              refine OwnJ.append (m := 1) (bytes := 24) hw2 rfl (by omega) fun v2 H2 hw3 => ?_
              have kj2 : H2 rj = some (.cells (dJb { job with done := x.time }) 56) := OwnJ.keep hw3 (upd_same _ _ _)
              have ka2 : H2 ra = some (.cells (dAct x) 37) := OwnJ.keep hw3 (by simp [upd, d2])
              have q1 := OwnJ.rebG (o' := .cells (dJb ⟨x.a, 0, 0⟩) 56) hw3 (upd_same _ _ _)
              rw [upd_upd] at q1
              simp (disch := omega) only [go_sem, Nat.reduceEqDiff, Nat.reduceAdd, Nat.reduceMul, Nat.reduceSub, Nat.reduceLeDiff, ↓reduceIte, reduceCtorEq, Int.reduceAdd, Int.reduceSub, Int.reduceMul, Int.reduceNeg, Int.reduceToNat, List.reduceReplicate, String.reduceEq, h6, h7, h12, h13, h14, hxl, hxt, hxd, hxo, hxc, hx0, hx2, hx3, List.append_nil, kj, d1, d2, k, kj2, ka2, dJb, DVal.cells]
              refine ⟨i + 1, _, GhostS.refl _, (hI _ _ _).2 ?_, by omega⟩
              simp (disch := omega) only [go_sem, Nat.reduceEqDiff, Nat.reduceAdd, Nat.reduceMul, Nat.reduceSub, Nat.reduceLeDiff, ↓reduceIte, reduceCtorEq, Int.reduceAdd, Int.reduceSub, Int.reduceMul, Int.reduceNeg, Int.reduceToNat, List.reduceReplicate, String.reduceEq, h6, h12, h13, h14, dActs]
              (repeat' apply And.intro) <;> (try first | rfl | assumption | omega)
              exact fin (out ++ [{ job with done := x.time }]) 1 _ _ (by simp; omega) hs (by simpa [dJb] using q1)
            · have hs : stepJ (out, job, 2) x = (out ++ [{ job with done := x.time }], ⟨x.a, 0, 0⟩, 0) := by simp [stepJ, k]
              simp (disch := omega) only [go_sem, Nat.reduceEqDiff, Nat.reduceAdd, Nat.reduceMul, Nat.reduceSub, Nat.reduceLeDiff, ↓reduceIte, reduceCtorEq, Int.reduceAdd, Int.reduceSub, Int.reduceMul, Int.reduceNeg, Int.reduceToNat, List.reduceReplicate, String.reduceEq, h6, h7, h12, h13, h14, hxl, hxt, hxd, hxo, hxc, hx0, hx2, hx3, List.append_nil, kj, d1, d2, k, dJb]
              intro rb hrb; dsimp only at hrb
              have d3 : ¬ rj = rb := fun e => by subst e; rw [upd_same] at hrb; cases hrb
              have d4 : ¬ rb = rj := fun e => d3 e.symm
              have hw2 := OwnJ.new (OwnJ.rebG (o' := .cells (dJb { job with done := x.time }) 56) hw' bj') hrb (some (.cells (dJb { job with done := x.time }) 56))
              simp (disch := omega) only [go_sem, Nat.reduceEqDiff, Nat.reduceAdd, Nat.reduceMul, Nat.reduceSub, Nat.reduceLeDiff, ↓reduceIte, reduceCtorEq, Int.reduceAdd, Int.reduceSub, Int.reduceMul, Int.reduceNeg, Int.reduceToNat, List.reduceReplicate, String.reduceEq, d3, d4]
              refine OwnJ.append (m := 1) (bytes := 24) hw2 rfl (by omega) fun v2 H2 hw3 => ?_
              have kj2 : H2 rj = some (.cells (dJb { job with done := x.time }) 56) := OwnJ.keep hw3 (upd_same _ _ _)
              have ka2 : H2 ra = some (.cells (dAct x) 37) := OwnJ.keep hw3 (by simp [upd, d2])
              have q1 := OwnJ.rebG (o' := .cells (dJb ⟨x.a, 0, 0⟩) 56) hw3 (upd_same _ _ _)
              rw [upd_upd] at q1
              simp (disch := omega) only [go_sem, Nat.reduceEqDiff, Nat.reduceAdd, Nat.reduceMul, Nat.reduceSub, Nat.reduceLeDiff, ↓reduceIte, reduceCtorEq, Int.reduceAdd, Int.reduceSub, Int.reduceMul, Int.reduceNeg, Int.reduceToNat, List.reduceReplicate, String.reduceEq, h6, h7, h12, h13, h14, hxl, hxt, hxd, hxo, hxc, hx0, hx2, hx3, List.append_nil, kj, d1, d2, k, kj2, ka2, dJb, DVal.cells]
              refine ⟨i + 1, _, GhostS.refl _, (hI _ _ _).2 ?_, by omega⟩
              simp (disch := omega) only [go_sem, Nat.reduceEqDiff, Nat.reduceAdd, Nat.reduceMul, Nat.reduceSub, Nat.reduceLeDiff, ↓reduceIte, reduceCtorEq, Int.reduceAdd, Int.reduceSub, Int.reduceMul, Int.reduceNeg, Int.reduceToNat, List.reduceReplicate, String.reduceEq, h6, h12, h13, h14, dActs]
              (repeat' apply And.intro) <;> (try first | rfl | assumption | omega)
              exact fin (out ++ [{ job with done := x.time }]) 0 _ _ (by simp; omega) hs (by simpa [dJb] using q1)
          · rcases k2 with k | k
            · have hs : stepJ (out, job, hv) x = (out, ⟨x.a, 0, 0⟩, 1) := by simp [stepJ, k, h2]
              simp (disch := omega) only [go_sem, Nat.reduceEqDiff, Nat.reduceAdd, Nat.reduceMul, Nat.reduceSub, Nat.reduceLeDiff, ↓reduceIte, reduceCtorEq, Int.reduceAdd, Int.reduceSub, Int.reduceMul, Int.reduceNeg, Int.reduceToNat, List.reduceReplicate, String.reduceEq, h6, h7, h12, h13, h14, hxl, hxt, hxd, hxo, hxc, hx0, hx2, hx3, List.append_nil, kj, d1, d2, k, dJb, h2]
              refine ⟨i + 1, _, GhostS.refl _, (hI _ _ _).2 ?_, by omega⟩
              simp (disch := omega) only [go_sem, Nat.reduceEqDiff, Nat.reduceAdd, Nat.reduceMul, Nat.reduceSub, Nat.reduceLeDiff, ↓reduceIte, reduceCtorEq, Int.reduceAdd, Int.reduceSub, Int.reduceMul, Int.reduceNeg, Int.reduceToNat, List.reduceReplicate, String.reduceEq, h6, h12, h13, h14, dActs]
              (repeat' apply And.intro) <;> (try first | rfl | assumption | omega)
              exact fin out 1 _ _ (by omega) hs (OwnJ.rebG hw' bj')
            · have hs : stepJ (out, job, hv) x = (out, ⟨x.a, 0, 0⟩, 0) := by simp [stepJ, k, h2]
              simp (disch := omega) only [go_sem, Nat.reduceEqDiff, Nat.reduceAdd, Nat.reduceMul, Nat.reduceSub, Nat.reduceLeDiff, ↓reduceIte, reduceCtorEq, Int.reduceAdd, Int.reduceSub, Int.reduceMul, Int.reduceNeg, Int.reduceToNat, List.reduceReplicate, String.reduceEq, h6, h7, h12, h13, h14, hxl, hxt, hxd, hxo, hxc, hx0, hx2, hx3, List.append_nil, kj, d1, d2, k, dJb, h2]
              refine ⟨i + 1, _, GhostS.refl _, (hI _ _ _).2 ?_, by omega⟩
              simp (disch := omega) only [go_sem, Nat.reduceEqDiff, Nat.reduceAdd, Nat.reduceMul, Nat.reduceSub, Nat.reduceLeDiff, ↓reduceIte, reduceCtorEq, Int.reduceAdd, Int.reduceSub, Int.reduceMul, Int.reduceNeg, Int.reduceToNat, List.reduceReplicate, String.reduceEq, h6, h12, h13, h14, dActs]
              (repeat' apply And.intro) <;> (try first | rfl | assumption | omega)
              exact fin out 0 _ _ (by omega) hs (OwnJ.rebG hw' bj')
        · have k20 : ¬ x.kind = 20 := fun e => k2 (.inl e)
          have k10 : ¬ x.kind = 10 := fun e => k2 (.inr e)
          rw [show stepJ (out, job, hv) x = (out, job, hv) by simp [stepJ, k21, k20, k10]] at hfs
          simp (disch := omega) only [go_sem, Nat.reduceEqDiff, Nat.reduceAdd, Nat.reduceMul, Nat.reduceSub, Nat.reduceLeDiff, ↓reduceIte, reduceCtorEq, Int.reduceAdd, Int.reduceSub, Int.reduceMul, Int.reduceNeg, Int.reduceToNat, List.reduceReplicate, String.reduceEq, h6, h7, h12, h13, h14, hxl, hxt, hxd, hxo, hxc, hx0, hx2, hx3, List.append_nil, kj, d1, d2]
          refine ⟨i + 1, _, GhostS.refl _, (hI _ _ _).2 ?_, by omega⟩
          simp (disch := omega) only [go_sem, Nat.reduceEqDiff, Nat.reduceAdd, Nat.reduceMul, Nat.reduceSub, Nat.reduceLeDiff, ↓reduceIte, reduceCtorEq, Int.reduceAdd, Int.reduceSub, Int.reduceMul, Int.reduceNeg, Int.reduceToNat, List.reduceReplicate, String.reduceEq, h6, h7, h12, h13, h14, dActs]
          (repeat' apply And.intro) <;> (try first | rfl | assumption | omega)
          exact ⟨out, job, hv, hfs, rfl, by omega, B, hB, bj, OwnJ.less hw' ((Sub.refl B).up hBra _)⟩
    · have hi : i = m.length := by omega
      subst hi
      rw [List.take_length] at hfo
      rw [hfo] at hjf
      simp (disch := omega) only [go_sem, Nat.reduceEqDiff, Nat.reduceAdd, Nat.reduceMul, Nat.reduceSub, Nat.reduceLeDiff, ↓reduceIte, reduceCtorEq, Int.reduceAdd, Int.reduceSub, Int.reduceMul, Int.reduceNeg, Int.reduceToNat, List.reduceReplicate, String.reduceEq, h12, h13, h14]
      rw [← hjf]
      exact OwnJ.fin (OwnJ.less hw hB) ⟨rfl, rfl⟩
end Go.Dl

-- Chapter 35: Jobs of the reference.
namespace Go.Dl
open Go Go.Proofs
set_option maxRecDepth 10000

theorem ownJobs_next {l : List Act} {t : Int} {i : Nat} (hlt : i < l.length) : ownJobs (l.take (i + 1)) t = ownJobs (l.take i) t ++ (if l[i].task = t ∧ (l[i].kind = 20 ∨ l[i].kind = 21 ∨ l[i].kind = 10) then [l[i]] else []) := by
  rw [ownJobs, ownJobs, List.take_succ_eq_append_getElem hlt, List.filter_append]
  congr 1
  simp only [List.filter_cons, List.filter_nil, jobKind, Bool.and_eq_true, decide_eq_true_eq]
theorem jobsR_short {m : List Act} (h : m.length ≤ 2) : jobsR m = [] := by
  match m, h with
  | [], _ => rfl
  | [x], _ => rfl
  | [x, y], _ => rfl

theorem rjobs_spec (G : Nat → DVal) (H : DHeap) (l : List Act) (t : Int) (hl : l.length ≤ 100000000) :
    DCalls Tryd.prog G 30 [dActs l, dI t] H (DRet (dJbs (jobsL l t)) H) := by
  have hfl := flat_len dAct_length l
  refine dcalls_intro Tryd.func30 Tryd.call30 rfl (by kernel_rfl) ?_
  simp (disch := omega) only [go_sem, Nat.reduceEqDiff, Nat.reduceAdd, Nat.reduceMul, Nat.reduceSub, Nat.reduceLeDiff, ↓reduceIte, reduceCtorEq, Int.reduceAdd, Int.reduceSub, Int.reduceMul, Int.reduceNeg, Int.reduceToNat, List.reduceReplicate, String.reduceEq]
  obtain ⟨I, hI⟩ : ∃ I : Nat → (Nat → DVal) → DHeap → Prop, ∀ i env heap, I i env heap ↔ (env 0 = dActs l ∧ env 1 = dI t ∧ env 6 = dI i ∧ i ≤ l.length ∧ OAJ H (ownJobs (l.take i) t) (env 5) heap) := ⟨_, fun _ _ _ => Iff.rfl⟩
  refine DLoop.run I (fun i => l.length - i) 0 ((hI _ _ _).2 ?_) ?_
  · simp (disch := omega) only [go_sem, Nat.reduceEqDiff, Nat.reduceAdd, Nat.reduceMul, Nat.reduceSub, Nat.reduceLeDiff, ↓reduceIte, reduceCtorEq, Int.reduceAdd, Int.reduceSub, Int.reduceMul, Int.reduceNeg, Int.reduceToNat, List.reduceReplicate, String.reduceEq]
    (repeat' apply And.intro) <;> (try first | rfl | assumption | omega)
    exact OwnJ.nil _ _ (Sub.refl _)
  · rintro i env heap hi
    obtain ⟨h0, h1, h6, hil, hv⟩ := (hI _ _ _).1 hi
    by_cases hlt : i < l.length
    · have hg1 : (l.flatMap dAct)[i * 6 + 1]? = some (dI l[i].task) := flat_get dAct_length l i hlt 1 (by omega)
      have hg2 : (l.flatMap dAct)[i * 6 + 2]? = some (.int .u8 l[i].kind) := flat_get dAct_length l i hlt 2 (by omega)
      have hget := flat_el dAct_length l i hlt
      have hnx := ownJobs_next (t := t) hlt
      have hxo : ((dAct l[i]).all fun x => x.one) = true := rfl
      have hxl : (dAct l[i]).length = 6 := rfl
      have hxt : (dAct l[i]).take 6 = dAct l[i] := rfl
      have hxd : (dAct l[i]).drop 6 = [] := rfl
      have hxc : (DVal.agg (dAct l[i])).cells = dAct l[i] := rfl
      have hlen : (ownJobs (l.take i) t).length ≤ 100000000 := by
        have := List.length_filter_le (fun x : Act => decide (x.task = t) && jobKind x) (l.take i)
        rw [List.length_take] at this
        rw [ownJobs]; omega
      by_cases c : l[i].task = t ∧ (l[i].kind = 20 ∨ l[i].kind = 21 ∨ l[i].kind = 10)
      · rw [if_pos c] at hnx
        obtain ⟨ct, ck⟩ := c
        have go : ∀ (env' : Nat → DVal) (heap' : DHeap), True := fun _ _ => trivial
        rcases ck with ck | ck | ck
        · simp (disch := omega) only [go_sem, Nat.reduceEqDiff, Nat.reduceAdd, Nat.reduceMul, Nat.reduceSub, Nat.reduceLeDiff, ↓reduceIte, reduceCtorEq, Int.reduceAdd, Int.reduceSub, Int.reduceMul, Int.reduceNeg, Int.reduceToNat, List.reduceReplicate, String.reduceEq, h0, h1, h6, hfl, List.append_nil, dActs, hg1, hg2, hget, ct, ck, hxl, hxt, hxd, hxo, hxc]
          intro ra hra; dsimp only at hra
          simp (disch := omega) only [go_sem, Nat.reduceEqDiff, Nat.reduceAdd, Nat.reduceMul, Nat.reduceSub, Nat.reduceLeDiff, ↓reduceIte, reduceCtorEq, Int.reduceAdd, Int.reduceSub, Int.reduceMul, Int.reduceNeg, Int.reduceToNat, List.reduceReplicate, String.reduceEq, h0, h1, h6, hfl, List.append_nil, hxl, hxt, hxo]
          refine OAJ.app (bytes := 48) (OwnJ.new hv hra _) (by omega) fun v2 H2 hv2 => ?_
          simp (disch := omega) only [go_sem, Nat.reduceEqDiff, Nat.reduceAdd, Nat.reduceMul, Nat.reduceSub, Nat.reduceLeDiff, ↓reduceIte, reduceCtorEq, Int.reduceAdd, Int.reduceSub, Int.reduceMul, Int.reduceNeg, Int.reduceToNat, List.reduceReplicate, String.reduceEq, h0, h1, h6, hfl, List.append_nil]
          refine ⟨i + 1, _, GhostS.refl _, (hI _ _ _).2 ?_, by omega⟩
          simp (disch := omega) only [go_sem, Nat.reduceEqDiff, Nat.reduceAdd, Nat.reduceMul, Nat.reduceSub, Nat.reduceLeDiff, ↓reduceIte, reduceCtorEq, Int.reduceAdd, Int.reduceSub, Int.reduceMul, Int.reduceNeg, Int.reduceToNat, List.reduceReplicate, String.reduceEq, h0, h1, h6, hfl, List.append_nil, dActs]
          (repeat' apply And.intro) <;> (try first | rfl | assumption | omega)
          rw [hnx]; exact hv2
        · simp (disch := omega) only [go_sem, Nat.reduceEqDiff, Nat.reduceAdd, Nat.reduceMul, Nat.reduceSub, Nat.reduceLeDiff, ↓reduceIte, reduceCtorEq, Int.reduceAdd, Int.reduceSub, Int.reduceMul, Int.reduceNeg, Int.reduceToNat, List.reduceReplicate, String.reduceEq, h0, h1, h6, hfl, List.append_nil, dActs, hg1, hg2, hget, ct, ck, hxl, hxt, hxd, hxo, hxc]
          intro ra hra; dsimp only at hra
          simp (disch := omega) only [go_sem, Nat.reduceEqDiff, Nat.reduceAdd, Nat.reduceMul, Nat.reduceSub, Nat.reduceLeDiff, ↓reduceIte, reduceCtorEq, Int.reduceAdd, Int.reduceSub, Int.reduceMul, Int.reduceNeg, Int.reduceToNat, List.reduceReplicate, String.reduceEq, h0, h1, h6, hfl, List.append_nil, hxl, hxt, hxo]
          refine OAJ.app (bytes := 48) (OwnJ.new hv hra _) (by omega) fun v2 H2 hv2 => ?_
          simp (disch := omega) only [go_sem, Nat.reduceEqDiff, Nat.reduceAdd, Nat.reduceMul, Nat.reduceSub, Nat.reduceLeDiff, ↓reduceIte, reduceCtorEq, Int.reduceAdd, Int.reduceSub, Int.reduceMul, Int.reduceNeg, Int.reduceToNat, List.reduceReplicate, String.reduceEq, h0, h1, h6, hfl, List.append_nil]
          refine ⟨i + 1, _, GhostS.refl _, (hI _ _ _).2 ?_, by omega⟩
          simp (disch := omega) only [go_sem, Nat.reduceEqDiff, Nat.reduceAdd, Nat.reduceMul, Nat.reduceSub, Nat.reduceLeDiff, ↓reduceIte, reduceCtorEq, Int.reduceAdd, Int.reduceSub, Int.reduceMul, Int.reduceNeg, Int.reduceToNat, List.reduceReplicate, String.reduceEq, h0, h1, h6, hfl, List.append_nil, dActs]
          (repeat' apply And.intro) <;> (try first | rfl | assumption | omega)
          rw [hnx]; exact hv2
        · simp (disch := omega) only [go_sem, Nat.reduceEqDiff, Nat.reduceAdd, Nat.reduceMul, Nat.reduceSub, Nat.reduceLeDiff, ↓reduceIte, reduceCtorEq, Int.reduceAdd, Int.reduceSub, Int.reduceMul, Int.reduceNeg, Int.reduceToNat, List.reduceReplicate, String.reduceEq, h0, h1, h6, hfl, List.append_nil, dActs, hg1, hg2, hget, ct, ck, hxl, hxt, hxd, hxo, hxc]
          intro ra hra; dsimp only at hra
          simp (disch := omega) only [go_sem, Nat.reduceEqDiff, Nat.reduceAdd, Nat.reduceMul, Nat.reduceSub, Nat.reduceLeDiff, ↓reduceIte, reduceCtorEq, Int.reduceAdd, Int.reduceSub, Int.reduceMul, Int.reduceNeg, Int.reduceToNat, List.reduceReplicate, String.reduceEq, h0, h1, h6, hfl, List.append_nil, hxl, hxt, hxo]
          refine OAJ.app (bytes := 48) (OwnJ.new hv hra _) (by omega) fun v2 H2 hv2 => ?_
          simp (disch := omega) only [go_sem, Nat.reduceEqDiff, Nat.reduceAdd, Nat.reduceMul, Nat.reduceSub, Nat.reduceLeDiff, ↓reduceIte, reduceCtorEq, Int.reduceAdd, Int.reduceSub, Int.reduceMul, Int.reduceNeg, Int.reduceToNat, List.reduceReplicate, String.reduceEq, h0, h1, h6, hfl, List.append_nil]
          refine ⟨i + 1, _, GhostS.refl _, (hI _ _ _).2 ?_, by omega⟩
          simp (disch := omega) only [go_sem, Nat.reduceEqDiff, Nat.reduceAdd, Nat.reduceMul, Nat.reduceSub, Nat.reduceLeDiff, ↓reduceIte, reduceCtorEq, Int.reduceAdd, Int.reduceSub, Int.reduceMul, Int.reduceNeg, Int.reduceToNat, List.reduceReplicate, String.reduceEq, h0, h1, h6, hfl, List.append_nil, dActs]
          (repeat' apply And.intro) <;> (try first | rfl | assumption | omega)
          rw [hnx]; exact hv2
      · rw [if_neg c, List.append_nil] at hnx
        by_cases ct : l[i].task = t
        · have k20 : ¬ l[i].kind = 20 := fun e => c ⟨ct, .inl e⟩
          have k21 : ¬ l[i].kind = 21 := fun e => c ⟨ct, .inr (.inl e)⟩
          have k10 : ¬ l[i].kind = 10 := fun e => c ⟨ct, .inr (.inr e)⟩
          simp (disch := omega) only [go_sem, Nat.reduceEqDiff, Nat.reduceAdd, Nat.reduceMul, Nat.reduceSub, Nat.reduceLeDiff, ↓reduceIte, reduceCtorEq, Int.reduceAdd, Int.reduceSub, Int.reduceMul, Int.reduceNeg, Int.reduceToNat, List.reduceReplicate, String.reduceEq, h0, h1, h6, hfl, List.append_nil, dActs, hg1, hg2]
          refine ⟨i + 1, _, GhostS.refl _, (hI _ _ _).2 ?_, by omega⟩
          simp (disch := omega) only [go_sem, Nat.reduceEqDiff, Nat.reduceAdd, Nat.reduceMul, Nat.reduceSub, Nat.reduceLeDiff, ↓reduceIte, reduceCtorEq, Int.reduceAdd, Int.reduceSub, Int.reduceMul, Int.reduceNeg, Int.reduceToNat, List.reduceReplicate, String.reduceEq, h0, h1, h6, hfl, List.append_nil, dActs]
          (repeat' apply And.intro) <;> (try first | rfl | assumption | omega)
          rw [hnx]; exact hv
        · simp (disch := omega) only [go_sem, Nat.reduceEqDiff, Nat.reduceAdd, Nat.reduceMul, Nat.reduceSub, Nat.reduceLeDiff, ↓reduceIte, reduceCtorEq, Int.reduceAdd, Int.reduceSub, Int.reduceMul, Int.reduceNeg, Int.reduceToNat, List.reduceReplicate, String.reduceEq, h0, h1, h6, hfl, List.append_nil, dActs, hg1, hg2]
          refine ⟨i + 1, _, GhostS.refl _, (hI _ _ _).2 ?_, by omega⟩
          simp (disch := omega) only [go_sem, Nat.reduceEqDiff, Nat.reduceAdd, Nat.reduceMul, Nat.reduceSub, Nat.reduceLeDiff, ↓reduceIte, reduceCtorEq, Int.reduceAdd, Int.reduceSub, Int.reduceMul, Int.reduceNeg, Int.reduceToNat, List.reduceReplicate, String.reduceEq, h0, h1, h6, hfl, List.append_nil, dActs]
          (repeat' apply And.intro) <;> (try first | rfl | assumption | omega)
          rw [hnx]; exact hv
    · have hi : i = l.length := by omega
      subst hi
      rw [List.take_length] at hv
      simp (disch := omega) only [go_sem, Nat.reduceEqDiff, Nat.reduceAdd, Nat.reduceMul, Nat.reduceSub, Nat.reduceLeDiff, ↓reduceIte, reduceCtorEq, Int.reduceAdd, Int.reduceSub, Int.reduceMul, Int.reduceNeg, Int.reduceToNat, List.reduceReplicate, String.reduceEq, h0, h1, h6, hfl, List.append_nil, dActs]
      have hjl : jobsL l t = jobsR (ownJobs l t) := rfl
      rw [hjl]
      have hml : (ownJobs l t).length ≤ 100000000 := Nat.le_trans (List.length_filter_le _ _) hl
      generalize ownJobs l t = m at hv hml
      have hfm := flat_len dAct_length m
      obtain ⟨J, hJ⟩ : ∃ J : Nat → (Nat → DVal) → DHeap → Prop, ∀ i env heap, J i env heap ↔ (env 5 = dActs m ∧ env 9 = dI i ∧ i ≤ m.length ∧ ∃ out, out ++ jobsR (m.drop i) = jobsR m ∧ out.length ≤ i ∧ OwnJ H 56 3 out.length (out.flatMap dJb) (env 8) heap) := ⟨_, fun _ _ _ => Iff.rfl⟩
      refine DLoop.runG J (fun i => m.length - i) 0 _ (GhostS.fzSlot (k := 5) (e := 37) (size := 6) (n := m.length) (cs := m.flatMap dAct) (by simp (disch := omega) only [go_sem, Nat.reduceEqDiff, Nat.reduceAdd, Nat.reduceMul, Nat.reduceSub, Nat.reduceLeDiff, ↓reduceIte, reduceCtorEq, Int.reduceAdd, Int.reduceSub, Int.reduceMul, Int.reduceNeg, Int.reduceToNat, List.reduceReplicate, String.reduceEq]; exact hv)) ((hJ _ _ _).2 ?_) ?_
      · simp (disch := omega) only [go_sem, Nat.reduceEqDiff, Nat.reduceAdd, Nat.reduceMul, Nat.reduceSub, Nat.reduceLeDiff, ↓reduceIte, reduceCtorEq, Int.reduceAdd, Int.reduceSub, Int.reduceMul, Int.reduceNeg, Int.reduceToNat, List.reduceReplicate, String.reduceEq, dActs]
        (repeat' apply And.intro) <;> (try first | rfl | assumption | omega)
        exact ⟨[], rfl, Nat.le_refl _, OwnJ.nil _ _ (Sub.refl _)⟩
      · rintro i env heap hi
        obtain ⟨h5, h9, him, out, hout, hol, hw⟩ := (hJ _ _ _).1 hi
        by_cases hlt : i + 2 < m.length
        · have hd : m.drop i = m[i] :: m[i + 1] :: m[i + 2] :: m.drop (i + 3) := by
            rw [List.drop_eq_getElem_cons (by omega), List.drop_eq_getElem_cons (by omega), List.drop_eq_getElem_cons (by omega)]
          have hd1 : m.drop (i + 1) = m[i + 1] :: m[i + 2] :: m.drop (i + 3) := by
            rw [List.drop_eq_getElem_cons (by omega), List.drop_eq_getElem_cons (by omega)]
          rw [hd, jobsR_three, ← hd1] at hout
          have g0 : (m.flatMap dAct)[i * 6 + 2]? = some (.int .u8 m[i].kind) := flat_get dAct_length m i (by omega) 2 (by omega)
          have g1 : (m.flatMap dAct)[(i + 1) * 6 + 2]? = some (.int .u8 m[i + 1].kind) := flat_get dAct_length m (i + 1) (by omega) 2 (by omega)
          have g2 : (m.flatMap dAct)[(i + 2) * 6 + 2]? = some (.int .u8 m[i + 2].kind) := flat_get dAct_length m (i + 2) (by omega) 2 (by omega)
          have g3 : (m.flatMap dAct)[i * 6 + 3]? = some (dI m[i].a) := flat_get dAct_length m i (by omega) 3 (by omega)
          have g4 : (m.flatMap dAct)[(i + 1) * 6]? = some (dI m[i + 1].time) := act_time m (i + 1) (by omega)
          have g5 : (m.flatMap dAct)[(i + 2) * 6]? = some (dI m[i + 2].time) := act_time m (i + 2) (by omega)
          have e1 : ((i : Int) + 1).toNat = i + 1 := by omega
          have e2 : ((i : Int) + 2).toNat = i + 2 := by omega
          have skip : ¬ (m[i].kind = 20 ∧ m[i + 1].kind = 21 ∧ m[i + 2].kind ≠ 21) → out ++ jobsR (m.drop (i + 1)) = jobsR m := fun hc => by rw [if_neg hc, List.nil_append] at hout; exact hout
          by_cases c1 : m[i].kind = 20
          · by_cases c2 : m[i + 1].kind = 21
            · by_cases c3 : m[i + 2].kind = 21
              · simp (disch := omega) only [go_sem, Nat.reduceEqDiff, Nat.reduceAdd, Nat.reduceMul, Nat.reduceSub, Nat.reduceLeDiff, ↓reduceIte, reduceCtorEq, Int.reduceAdd, Int.reduceSub, Int.reduceMul, Int.reduceNeg, Int.reduceToNat, List.reduceReplicate, String.reduceEq, h5, h9, dActs, hfm, g0, g1, g2, e1, e2, c1, c2, c3]
                refine ⟨i + 1, _, GhostS.refl _, (hJ _ _ _).2 ?_, by omega⟩
                simp (disch := omega) only [go_sem, Nat.reduceEqDiff, Nat.reduceAdd, Nat.reduceMul, Nat.reduceSub, Nat.reduceLeDiff, ↓reduceIte, reduceCtorEq, Int.reduceAdd, Int.reduceSub, Int.reduceMul, Int.reduceNeg, Int.reduceToNat, List.reduceReplicate, String.reduceEq, h5, h9, dActs]
                (repeat' apply And.intro) <;> (try first | rfl | assumption | omega)
                exact ⟨out, skip (fun h => h.2.2 c3), by omega, hw⟩
              · simp (disch := omega) only [go_sem, Nat.reduceEqDiff, Nat.reduceAdd, Nat.reduceMul, Nat.reduceSub, Nat.reduceLeDiff, ↓reduceIte, reduceCtorEq, Int.reduceAdd, Int.reduceSub, Int.reduceMul, Int.reduceNeg, Int.reduceToNat, List.reduceReplicate, String.reduceEq, h5, h9, dActs, hfm, g0, g1, g2, e1, e2, c1, c2]
                refine dwp_draws (by kernel_rfl) (.take 0 (.take 1 (.take 2 (.take 3 (.take 4 (.take 5 (.take 6 (.take 7 (.take 8 (.take 9 (.take 10 (.take 11 (.take 12 (.take 13 (.take 14 (.take 15 (.take 16 (.take 17 (.take 18 (.go 19 [17, 11, 5] (.go 20 [17, 11, 5] (.take 21 .done)))))))))))))))))))))) (by kernel_rfl) ?_
                simp (disch := omega) only [go_sem, Nat.reduceEqDiff, Nat.reduceAdd, Nat.reduceMul, Nat.reduceSub, Nat.reduceLeDiff, ↓reduceIte, reduceCtorEq, Int.reduceAdd, Int.reduceSub, Int.reduceMul, Int.reduceNeg, Int.reduceToNat, List.reduceReplicate, String.reduceEq, h5, h9, dActs, hfm, g0, g1, g2, g3, g4, g5, e1, e2]
                intro rb hrb; dsimp only at hrb
                simp (disch := omega) only [go_sem, Nat.reduceEqDiff, Nat.reduceAdd, Nat.reduceMul, Nat.reduceSub, Nat.reduceLeDiff, ↓reduceIte, reduceCtorEq, Int.reduceAdd, Int.reduceSub, Int.reduceMul, Int.reduceNeg, Int.reduceToNat, List.reduceReplicate, String.reduceEq, h5, h9]
                refine OwnJ.append (m := 1) (bytes := 24) (OwnJ.new hw hrb _) rfl (by omega) fun v2 H2 hw2 => ?_
                simp (disch := omega) only [go_sem, Nat.reduceEqDiff, Nat.reduceAdd, Nat.reduceMul, Nat.reduceSub, Nat.reduceLeDiff, ↓reduceIte, reduceCtorEq, Int.reduceAdd, Int.reduceSub, Int.reduceMul, Int.reduceNeg, Int.reduceToNat, List.reduceReplicate, String.reduceEq, h5, h9]
                refine ⟨i + 1, _, GhostS.refl _, (hJ _ _ _).2 ?_, by omega⟩
                simp (disch := omega) only [go_sem, Nat.reduceEqDiff, Nat.reduceAdd, Nat.reduceMul, Nat.reduceSub, Nat.reduceLeDiff, ↓reduceIte, reduceCtorEq, Int.reduceAdd, Int.reduceSub, Int.reduceMul, Int.reduceNeg, Int.reduceToNat, List.reduceReplicate, String.reduceEq, h5, h9, dActs]
                (repeat' apply And.intro) <;> (try first | rfl | assumption | omega)
                rw [if_pos ⟨c1, c2, c3⟩, ← List.append_assoc] at hout
                exact ⟨_, hout, by simp; omega, by simpa [dJb] using hw2⟩
            · simp (disch := omega) only [go_sem, Nat.reduceEqDiff, Nat.reduceAdd, Nat.reduceMul, Nat.reduceSub, Nat.reduceLeDiff, ↓reduceIte, reduceCtorEq, Int.reduceAdd, Int.reduceSub, Int.reduceMul, Int.reduceNeg, Int.reduceToNat, List.reduceReplicate, String.reduceEq, h5, h9, dActs, hfm, g0, g1, g2, e1, e2, c1]
              refine ⟨i + 1, _, GhostS.refl _, (hJ _ _ _).2 ?_, by omega⟩
              simp (disch := omega) only [go_sem, Nat.reduceEqDiff, Nat.reduceAdd, Nat.reduceMul, Nat.reduceSub, Nat.reduceLeDiff, ↓reduceIte, reduceCtorEq, Int.reduceAdd, Int.reduceSub, Int.reduceMul, Int.reduceNeg, Int.reduceToNat, List.reduceReplicate, String.reduceEq, h5, h9, dActs]
              (repeat' apply And.intro) <;> (try first | rfl | assumption | omega)
              exact ⟨out, skip (fun h => c2 h.2.1), by omega, hw⟩
          · simp (disch := omega) only [go_sem, Nat.reduceEqDiff, Nat.reduceAdd, Nat.reduceMul, Nat.reduceSub, Nat.reduceLeDiff, ↓reduceIte, reduceCtorEq, Int.reduceAdd, Int.reduceSub, Int.reduceMul, Int.reduceNeg, Int.reduceToNat, List.reduceReplicate, String.reduceEq, h5, h9, dActs, hfm, g0, g1, g2, e1, e2]
            refine ⟨i + 1, _, GhostS.refl _, (hJ _ _ _).2 ?_, by omega⟩
            simp (disch := omega) only [go_sem, Nat.reduceEqDiff, Nat.reduceAdd, Nat.reduceMul, Nat.reduceSub, Nat.reduceLeDiff, ↓reduceIte, reduceCtorEq, Int.reduceAdd, Int.reduceSub, Int.reduceMul, Int.reduceNeg, Int.reduceToNat, List.reduceReplicate, String.reduceEq, h5, h9, dActs]
            (repeat' apply And.intro) <;> (try first | rfl | assumption | omega)
            exact ⟨out, skip (fun h => c1 h.1), by omega, hw⟩
        · simp (disch := omega) only [go_sem, Nat.reduceEqDiff, Nat.reduceAdd, Nat.reduceMul, Nat.reduceSub, Nat.reduceLeDiff, ↓reduceIte, reduceCtorEq, Int.reduceAdd, Int.reduceSub, Int.reduceMul, Int.reduceNeg, Int.reduceToNat, List.reduceReplicate, String.reduceEq, h5, h9, dActs]
          rw [jobsR_short (m := m.drop i) (by simp; omega), List.append_nil] at hout
          rw [← hout]
          exact OwnJ.fin hw ⟨rfl, rfl⟩
end Go.Dl
