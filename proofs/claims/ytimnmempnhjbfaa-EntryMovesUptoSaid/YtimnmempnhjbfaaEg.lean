/- Plain laws of queues: what Put, Find, Take, Remove do one behind the other. -/
import Derived.Test.YtimnmempnhjbfaaEc
set_option linter.unusedSimpArgs false
set_option linter.unusedVariables false
namespace Go.Dl
open Go

theorem clp_append (s : Nat) (a b : List (List Int)) : clp s (a ++ b) = clp s a ++ clp (s + a.length) b := by
  induction a generalizing s with
  | nil => simp [clp]
  | cons l a ih =>
    simp only [List.cons_append, clp, ih, List.length_cons, List.append_assoc]
    rw [show s + 1 + a.length = s + (a.length + 1) by omega]

theorem clp_find_none {s : Nat} {q : List (List Int)} {t : Int} (h : t ∉ q.flatten) : (clp s q).find? (fun p => p.2 = t) = none := by
  rw [List.find?_eq_none]
  intro p hp e
  simp only [decide_eq_true_eq] at e
  refine h ?_
  rw [← clp_snd s, List.mem_map]
  exact ⟨p, hp, e⟩

theorem split_at (q : List (List Int)) (n : Nat) (h : n < q.length) : q = q.take n ++ q[n] :: q.drop (n + 1) := by
  have h1 := List.take_append_drop n q
  rw [List.drop_eq_getElem_cons h] at h1
  exact h1.symm
theorem set_split (q : List (List Int)) (n : Nat) (l : List Int) (h : n < q.length) : q.set n l = q.take n ++ l :: q.drop (n + 1) := by
  rw [List.set_eq_take_append_cons_drop, if_pos h]

theorem set_flat_count (q : List (List Int)) (n : Nat) (m : List Int) (h : n < q.length) (x : Int) : (q.set n (q[n] ++ m)).flatten.count x = q.flatten.count x + m.count x := by
  rw [set_split q n _ h]
  conv => rhs; rw [split_at q n h]
  simp only [List.flatten_append, List.flatten_cons, List.count_append]
  omega

theorem mem_flat_set (q : List (List Int)) (n : Nat) (m : List Int) (h : n < q.length) (x : Int) : x ∈ (q.set n (q[n] ++ m)).flatten ↔ x ∈ q.flatten ∨ x ∈ m := by
  rw [← List.count_pos_iff, set_flat_count q n m h, ← List.count_pos_iff, ← List.count_pos_iff]
  omega

/-- A task that is in no queue is put at the end of a queue: these are queues. -/
theorem mayQ_put {q : List (List Int)} {n : Nat} {t : Int} (hm : mayQ q = true) (h : n < q.length) (ht : 0 ≤ t ∧ t < 32) (hn : t ∉ q.flatten) : mayQ (q.set n (q[n] ++ [t])) = true := by
  simp only [mayQ, Bool.and_eq_true, decide_eq_true_eq, List.all_eq_true] at hm ⊢
  obtain ⟨⟨h1, h2⟩, h3⟩ := hm
  refine ⟨⟨by simpa using h1, fun x hx => ?_⟩, ?_⟩
  · rcases (mem_flat_set q n [t] h x).1 hx with hx | hx
    · exact h2 x hx
    · simp at hx; subst hx; exact ht
  · rw [List.nodup_iff_count] at h3 ⊢
    intro x
    rw [set_flat_count q n [t] h]
    by_cases hx : x = t
    · subst hx
      rw [List.count_eq_zero.2 hn]; simp
    · rw [List.count_eq_zero.2 (show x ∉ [t] by simpa using hx)]; exact h3 x

theorem findP_put {q : List (List Int)} {n : Nat} {t : Int} (h : n < q.length) (hn : t ∉ q.flatten) : findP (q.set n (q[n] ++ [t])) t = some (n, t) := by
  have h0 := split_at q n h
  have hT : t ∉ (q.take n).flatten := fun hx => hn (by rw [h0]; simp only [List.flatten_append, List.mem_append]; exact .inl hx)
  have hq : t ∉ q[n] := fun hx => hn (by rw [h0]; simp only [List.flatten_append, List.flatten_cons, List.mem_append]; exact .inr (.inl hx))
  unfold findP
  rw [set_split q n _ h, clp_append, List.find?_append, clp_find_none hT, Option.none_or]
  have hl : (q.take n).length = n := by rw [List.length_take]; omega
  simp only [hl, Nat.zero_add, clp, List.map_append, List.find?_append]
  have : (q[n].map (fun t => (n, t))).find? (fun p => p.2 = t) = none := by
    rw [List.find?_eq_none]
    intro p hp e
    simp only [List.mem_map] at hp
    obtain ⟨u, hu, rfl⟩ := hp
    simp at e; subst e; exact hq hu
  rw [this]; simp

theorem idx_put {l : List Int} {t : Int} (h : t ∉ l) : idx (l ++ [t]) t = l.length := by
  unfold idx
  have : (l ++ [t]).findIdx? (fun x => decide (x = t)) = some l.length := by
    rw [List.findIdx?_eq_some_iff_getElem]
    refine ⟨by simp, by simp, fun j hj => ?_⟩
    rw [List.getElem_append_left (by omega)]
    have : l[j] ≠ t := fun e => h (e ▸ List.getElem_mem (by omega))
    simpa using this
  rw [this]

theorem put_ok {q : List (List Int)} {e t : Int} (h : (putL q e t).2 = 0) : ∃ n : Nat, ∃ hn : n < q.length, e = n ∧ mayQ q = true ∧ (0 ≤ t ∧ t < 32) ∧ t ∉ q.flatten ∧ putL q e t = (q.set n (q[n] ++ [t]), 0) := by
  unfold putL at h
  split at h
  · rename_i hc; exact absurd h hc
  · rename_i hc
    simp only [ne_eq, Decidable.not_not] at hc
    obtain ⟨hm, e0, e1, t0, t1⟩ := chk_zero hc
    split at h
    · simp at h
    · rename_i hf
      have hf' : findP q t = none := by
        cases hx : findP q t with
        | none => rfl
        | some p => rw [hx] at hf; exact absurd rfl hf
      obtain ⟨n, rfl⟩ : ∃ n : Nat, e = n := ⟨e.toNat, by omega⟩
      have hn : n < q.length := by omega
      refine ⟨n, hn, rfl, hm, ⟨t0, t1⟩, ?_, ?_⟩
      · rw [← List.count_eq_zero]
        exact findP_none.1 hf'
      · simp [putL, hc, hf', hn]

theorem put_fail {q : List (List Int)} {e t : Int} (h : (putL q e t).2 ≠ 0) : (putL q e t).1 = [] := by
  unfold putL at h ⊢
  split
  · rfl
  · split
    · rfl
    · rename_i h1 h2
      rw [if_neg h1, if_neg h2] at h
      exact absurd rfl h

theorem remove_put {q : List (List Int)} {n : Nat} {t : Int} (hm : mayQ q = true) (h : n < q.length) (ht : 0 ≤ t ∧ t < 32) (hn : t ∉ q.flatten) : removeL (q.set n (q[n] ++ [t])) t = (q, 0) := by
  have hq : t ∉ q[n] := fun hx => hn (by rw [split_at q n h]; simp only [List.flatten_append, List.flatten_cons, List.mem_append]; exact .inr (.inl hx))
  rw [removeL, mayQ_put hm h ht hn, if_neg (by simp), if_neg (fun h => h ht), findP_put h hn]
  have hg : (q.set n (q[n] ++ [t])).getD n [] = q[n] ++ [t] := by simp [h]
  simp only [hg, idx_put hq, Int.toNat_natCast]
  rw [List.eraseIdx_append_of_length_le (Nat.le_refl _)]
  simp

theorem find_put {q : List (List Int)} {n : Nat} {t : Int} (hm : mayQ q = true) (h : n < q.length) (ht : 0 ≤ t ∧ t < 32) (hn : t ∉ q.flatten) : findD (q.set n (q[n] ++ [t])) t = .tuple [dI n, dI q[n].length, .bool true] := by
  have hq : t ∉ q[n] := fun hx => hn (by rw [split_at q n h]; simp only [List.flatten_append, List.flatten_cons, List.mem_append]; exact .inr (.inl hx))
  have hg : (q.set n (q[n] ++ [t])).getD n [] = q[n] ++ [t] := by simp [h]
  rw [findD, mayQ_put hm h ht hn, if_pos rfl, findP_put h hn]
  simp only [hg, idx_put hq]

theorem take_put {q : List (List Int)} {n : Nat} {t : Int} (hm : mayQ q = true) (h : n < q.length) (ht : 0 ≤ t ∧ t < 32) (hn : t ∉ q.flatten) :
    takeL (q.set n (q[n] ++ [t])) n = match q[n] with
      | [] => (q, t, 0)
      | u :: l => (q.set n (l ++ [t]), u, 0) := by
  have hc : chk (q.set n (q[n] ++ [t])) n 0 = 0 := by
    rw [chk, mayQ_put hm h ht hn, if_pos rfl, if_pos (by simp; omega)]
  have hg : (q.set n (q[n] ++ [t])).getD n [] = q[n] ++ [t] := by simp [h]
  rw [takeL, hc, if_neg (by simp), Int.toNat_natCast, hg]
  cases hq : q[n] with
  | nil =>
    simp only [List.nil_append, List.set_set]
    have : q.set n [] = q := by rw [← hq]; simp
    rw [this]
  | cons u l => simp
end Go.Dl
