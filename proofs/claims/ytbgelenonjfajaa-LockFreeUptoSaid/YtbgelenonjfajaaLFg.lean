/- The data level and the contracts of the functions that are reached (part 7). -/
import Derived.Test.YtbgelenonjfajaaLFf
set_option linter.unusedSimpArgs false
set_option linter.unusedVariables false
-- The reference of chapter 32: New, Begin, release, End, Wait, Leave, Same; Active.
namespace Go.Dl
open Go Go.Proofs
set_option maxRecDepth 10000

def dR2 (s : PS) (h : Bool × Int × Int) (e : Int) : DVal := .tuple [dPS s, dH h, dI e]
theorem dR2_zero (e : Int) : DLe (.tuple [.agg [.bool false, dI 0, .nilSlice], .agg [.bool false, dI 0, dI 0], dI e]) (dR2 ZPS ZH e) := DLe.tuple (.cons (.nilQ _ _) (.refl _))
theorem first_of {Q : Nat → Prop} : ∀ n, Q n → ∃ k, k ≤ n ∧ Q k ∧ ∀ j, j < k → ¬ Q j
  | 0, h => ⟨0, Nat.le_refl _, h, fun j hj => by omega⟩
  | n + 1, h => by
    by_cases h1 : ∃ j, j ≤ n ∧ Q j
    · obtain ⟨j, hj, hq⟩ := h1
      obtain ⟨k, k1, k2, k3⟩ := first_of j hq
      exact ⟨k, by omega, k2, k3⟩
    · exact ⟨n + 1, Nat.le_refl _, h, fun j hj hq => h1 ⟨j, by omega, hq⟩⟩
termination_by n => n
/-- The first caller of an open entry is the first one in its queue; no smaller entry that is open has one. -/
theorem openP_first {q : List (List Int)} {o : List Bool} {p : Nat × Int} (h : openP q o = some p) : ∃ l, q[p.1]? = some (p.2 :: l) ∧ o.getD p.1 false = true ∧ ∀ j, j < p.1 → o.getD j false = true → q.getD j [] = [] := by
  unfold openP at h
  have h1 := List.mem_of_find?_eq_some h
  have h2 := List.find?_some h
  obtain ⟨hlt, _, hmem⟩ := clp_mem h1
  simp only [Nat.sub_zero] at hlt hmem
  obtain ⟨k, hk, ⟨hk1, hk2⟩, hk3⟩ := first_of (Q := fun j => o.getD j false = true ∧ q.getD j [] ≠ []) p.1 ⟨by simpa using h2, by
    intro e; simp [hlt] at e; rw [e] at hmem; cases hmem⟩
  have hkl : k < q.length := by omega
  have hqk : q[k]? = some q[k] := List.getElem?_eq_getElem hkl
  have hg : q.getD k [] = q[k] := by simp [hkl]
  cases hr : q[k] with
  | nil => rw [hg, hr] at hk2; exact absurd rfl hk2
  | cons u l =>
    have hf := clp_found (q := q) 0 (fun j => o.getD j false) k u l (by rw [hqk, hr]) (by simpa using hk1) (fun j hj => by
      have := hk3 j hj
      rw [Nat.zero_add]
      cases h3 : o.getD j false
      · rw [Bool.false_and]
      · have h4 : q.getD j [] = [] := by
          cases h5 : q.getD j [] with
          | nil => rfl
          | cons a b => exact absurd ⟨h3, by rw [h5]; simp⟩ this
        rw [h4]; rfl)
    rw [h] at hf
    cases hf
    simp only [Nat.zero_add] at *
    refine ⟨l, by rw [hqk, hr], hk1, fun j hj h3 => ?_⟩
    cases h5 : q.getD j [] with
    | nil => rfl
    | cons a b => exact absurd ⟨h3, by rw [h5]; simp⟩ (hk3 j hj)
theorem openP_take {q : List (List Int)} {o : List Bool} {p : Nat × Int} (hm : mayQ q = true) (h : openP q o = some p) : (takeL q p.1).2.1 = p.2 := by
  obtain ⟨l, h1, _, _⟩ := openP_first h
  have hlt := (List.getElem?_eq_some_iff.1 h1).1
  rw [takeL_eq hm, if_neg (by omega)]
  have hg : q.getD p.1 [] = p.2 :: l := by rw [List.getD_eq_getElem?_getD, h1]; rfl
  rw [hg]
/-- Same, of states whose queues are lent. -/
theorem lsame_spec (G : Nat → DVal) (hG : ∀ g, ∃ r o, G g = .optr r o) (s t : PS) (u v : DVal) (H : DHeap) (hu : Views H u s.q) (hv : Views H v t.q) (hu1 : u.cells = [u] ∧ u.one = true) (hv1 : v.cells = [v] ∧ v.one = true) (ha : s.q.length ≤ 1099511627776) (hb : t.q.length ≤ 1099511627776) (hal : ∀ l ∈ s.q, l.length ≤ 1099511627776) (hbl : ∀ l ∈ t.q, l.length ≤ 1099511627776) :
    DCalls Try.prog G 19 [.agg [.bool s.locked, dI s.owner, u], .agg [.bool t.locked, dI t.owner, v]] H (DRet (.bool (decide (s.locked = t.locked ∧ s.owner = t.owner ∧ s.q = t.q))) H) := by
  obtain ⟨sl, so, sq⟩ := s
  obtain ⟨tl, to, tq⟩ := t
  dsimp only at *
  refine dcalls_intro Try.func19 Try.call19 rfl (by kernel_rfl) ?_
  simp (disch := omega) only [go_sem, ↓reduceIte, hu1.1, hu1.2]
  intro ra hra; dsimp only at hra
  simp (disch := omega) only [go_sem, ↓reduceIte, hv1.1, hv1.2]
  intro rb hrb; dsimp only at hrb
  rw [upd_eq_none] at hrb
  have hHb := hrb.2.2
  have hsub := sub_refl H
  simp (disch := omega) only [go_sem, ↓reduceIte, hrb]
  by_cases h1 : sl = tl
  · subst h1
    have hbb : (sl == sl) = true := by simp
    by_cases h2 : so = to
    · subst h2
      simp (disch := omega) only [go_sem, ↓reduceIte, hrb, hbb]
      refine (same_own G hG u v sq tq _ (hu.up ?s1) (hv.up ?s2) ha hb hal hbl).mono ?_
      case s1 => exact (by repeat (first | assumption | exact sub_refl _ | refine sub_upd ?_ (by assumption) _))
      case s2 => exact (by repeat (first | assumption | exact sub_refl _ | refine sub_upd ?_ (by assumption) _))
      rintro _ H2 ⟨rfl, rfl⟩
      simp (disch := omega) only [go_sem, ↓reduceIte, hrb]
      refine DFin.sub (by repeat (first | assumption | exact sub_refl _ | refine sub_upd ?_ (by assumption) _)) (DFin.refl ⟨?_, rfl⟩)
      simp
    · simp (disch := omega) only [go_sem, ↓reduceIte, hrb, hbb]
      refine DFin.sub (by repeat (first | assumption | exact sub_refl _ | refine sub_upd ?_ (by assumption) _)) (DFin.refl ⟨?_, rfl⟩)
      simp [h2]
  · have hbb : (sl == tl) = false := by simpa using h1
    simp (disch := omega) only [go_sem, ↓reduceIte, hrb, hbb]
    refine DFin.sub (by repeat (first | assumption | exact sub_refl _ | refine sub_upd ?_ (by assumption) _)) (DFin.refl ⟨?_, rfl⟩)
    simp [h1]
end Go.Dl

-- Chapter 32: what the calls return, seen as memory that lasts; Active; the examples of the chapter.
namespace Go.Dl
open Go Go.Proofs
set_option maxRecDepth 10000
set_option maxHeartbeats 1000000

theorem OwnR1.frozen {P : Program} {G : Nat → DVal} {f : FuncId} {args : List DVal} {H : DHeap} {s : PS} {e : Int} (h : DCalls P G f args H (OwnR1 s e H)) : DCalls P G f args H (DRet (dR1 s e) H) :=
  h.ghost fun x H' ⟨u, hx, hu⟩ => ⟨_, _, _, hx, ((hu.ghost.agg1 (pre := [.bool s.locked, dI s.owner]) (post := []) rfl rfl).tuple1 (pre := []) (post := [dI e]) rfl rfl), rfl, rfl⟩
theorem OwnR2.frozen {P : Program} {G : Nat → DVal} {f : FuncId} {args : List DVal} {H : DHeap} {s : PS} {h : Bool × Int × Int} {e : Int} (hc : DCalls P G f args H (OwnR2 s h e H)) : DCalls P G f args H (DRet (dR2 s h e) H) :=
  hc.ghost fun x H' ⟨u, hx, hu, _⟩ => ⟨_, _, _, hx, ((hu.ghost.agg1 (pre := [.bool s.locked, dI s.owner]) (post := []) rfl rfl).tuple1 (pre := []) (post := [dH h, dI e]) rfl rfl), rfl, rfl⟩

theorem fsame_spec (G : Nat → DVal) (hG : ∀ g, ∃ r o, G g = .optr r o) (s t : PS) (H : DHeap) (ha : s.q.length ≤ 1099511627776) (hb : t.q.length ≤ 1099511627776) (hal : ∀ l ∈ s.q, l.length ≤ 1099511627776) (hbl : ∀ l ∈ t.q, l.length ≤ 1099511627776) :
    DCalls Try.prog G 19 [dPS s, dPS t] H (DRet (.bool (decide (s.locked = t.locked ∧ s.owner = t.owner ∧ s.q = t.q))) H) :=
  lsame_spec G hG s t _ _ H (.frozen _ _) (.frozen _ _) ⟨rfl, rfl⟩ ⟨rfl, rfl⟩ ha hb hal hbl

def activeL (b : Int) (l : List Int) : Int := l.foldl max b
theorem foldl_take_max (b : Int) (l : List Int) (k : Nat) (h : k < l.length) : (l.take (k + 1)).foldl max b = max ((l.take k).foldl max b) l[k] := by
  rw [List.take_add_one, List.getElem?_eq_getElem h, List.foldl_append]; rfl
theorem max_spec (G : Nat → DVal) (b : Int) (l : List Int) (H : DHeap) (hl : l.length < 1099511627776) : DCalls Try.prog G 34 [dIs (b :: l)] H (DRet (dI (activeL b l)) H) := by
  refine dcalls_intro Try.func34 Try.call34 rfl (by kernel_rfl) ?_
  have h1 : ¬ ((l.length + 1 : Nat) : Int) < 1 := by omega
  simp (disch := omega) only [go_sem, ↓reduceIte, h1]
  obtain ⟨I, hI⟩ : ∃ I : Nat → (Nat → DVal) → DHeap → Prop, ∀ k env heap, I k env heap ↔ (heap = H ∧ env 3 = dI ((l.take k).foldl max b) ∧ env 0 = dIs (b :: l) ∧ env 4 = dI (k + 1) ∧ k ≤ l.length) := ⟨_, fun _ _ _ => Iff.rfl⟩
  refine DLoop.run I (fun k => l.length - k) 0 ((hI _ _ _).2 ?_) ?_
  · simp (disch := omega) only [go_sem, ↓reduceIte]
    (repeat' apply And.intro) <;> (try first | rfl | assumption | omega)
  · intro k env heap hk
    obtain ⟨rfl, g0, g1, g5, hk⟩ := (hI _ _ _).1 hk
    by_cases hlt : k < l.length
    · have hx : (List.map dI (b :: l))[((k : Int) + 1).toNat]? = some (dI l[k]) := by
        rw [show ((k : Int) + 1).toNat = k + 1 by omega]; simp [hlt]
      by_cases hg : l[k] > (l.take k).foldl max b
      · simp (disch := omega) only [go_sem, ↓reduceIte, g0, g1, g5, hx, hg, gt_iff_lt]
        refine ⟨k + 1, _, GhostS.refl _, (hI _ _ _).2 ?_, by omega⟩
        simp (disch := omega) only [go_sem, ↓reduceIte, g0, g1, g5]
        (repeat' apply And.intro) <;> (try first | rfl | assumption | omega)
        rw [foldl_take_max _ _ _ hlt, Int.max_eq_right (by omega)]
      · simp (disch := omega) only [go_sem, ↓reduceIte, g0, g1, g5, hx, hg]
        refine ⟨k + 1, _, GhostS.refl _, (hI _ _ _).2 ?_, by omega⟩
        simp (disch := omega) only [go_sem, ↓reduceIte, g0, g1, g5]
        (repeat' apply And.intro) <;> (try first | rfl | assumption | omega)
        rw [foldl_take_max _ _ _ hlt, Int.max_eq_left (by omega)]
    · simp (disch := omega) only [go_sem, ↓reduceIte, g0, g1, g5]
      have : k = l.length := by omega
      subst this
      rw [List.take_length]
      exact DFin.refl ⟨rfl, rfl⟩
theorem appendO_own {H : DHeap} {e : TypeId} {size bytes n m r : Nat} {cs news : List DVal} {dst : Option Nat} {K : DK} {env : Nat → DVal} (hr : H r = none) (hl : cs.length = n * size) (hm : news.length = m * size) (hb : (n + m) * bytes ≤ 35184372088832)
    (hK : ∀ v' H', OwnA H e size (n + m) (cs ++ news) v' H' → K ⟨updO env dst v', H'⟩) : dAppendO e size bytes r 0 n n m news dst K ⟨env, upd H r (some (.cells cs e))⟩ (some (.cells cs e)) := by
  have := OwnA.append (H := H) (H0 := upd H r (some (.cells cs e))) (v := .oslice size r 0 n n) (.inr ⟨r, hr, hl, rfl, rfl⟩) hm hb hK
  simp only [dAppendTo, upd_same, true_and] at this
  exact this
theorem active_spec (G : Nat → DVal) (b : Int) (l : List Int) (H : DHeap) (hl : l.length ≤ 100000000000) : DCalls Try.prog G 20 [dI b, dIs l] H (DRet (dI (activeL b l)) H) := by
  refine dcalls_intro Try.func20 Try.call20 rfl (by kernel_rfl) ?_
  simp (disch := omega) only [go_sem, ↓reduceIte]
  intro r hr; dsimp only at hr
  simp (disch := omega) only [go_sem, ↓reduceIte]
  refine appendO_own hr rfl (by simp) (by omega) fun v' H' hv => ?_
  simp (disch := omega) only [go_sem, ↓reduceIte]
  refine DCalls.pre (hv.ghostT (ds := []) (fun _ _ => rfl)) ?_
  have h := max_spec G b l H (by omega)
  rw [show 1 + l.length = l.length + 1 by omega]
  refine h.mono ?_
  rintro _ H1 ⟨rfl, rfl⟩
  simp (disch := omega) only [go_sem, ↓reduceIte]
  exact DFin.refl ⟨rfl, rfl⟩

theorem some_spec (G : Nat → DVal) (H : DHeap) : DCalls Try.prog G 17 [] H (DRet (dPS ⟨true, 1, [[3, 5], [4]]⟩) H) := by
  refine dcalls_intro Try.func17 Try.call17 rfl (by kernel_rfl) ?_
  simp (disch := omega) only [go_sem, ↓reduceIte]
  intro r hr; dsimp only at hr
  simp (disch := omega) only [go_sem, ↓reduceIte]
  intro r1 h1; dsimp only at h1
  simp (disch := omega) only [go_sem, ↓reduceIte]
  intro r2 h2; dsimp only at h2
  simp (disch := omega) only [go_sem, ↓reduceIte]
  intro r3 h3; dsimp only at h3
  simp only [upd_eq_none] at h1 h2 h3
  simp (disch := omega) only [go_sem, ↓reduceIte, h1, h2, h3]
  refine DFin.sub (H' := upd (upd (upd H r1 (some (.cells [dI 3, dI 5] 3))) r2 (some (.cells [dI 4] 3))) r3 (some (.cells [.oslice 1 r1 0 2 2, .oslice 1 r2 0 1 1] 27))) (fun b o hb => ?_) ?_
  · have : b ≠ r := fun e => by subst e; simp [upd, h1, h2, h3, hr] at hb
    simp only [upd] at hb ⊢
    simpa [this] using hb
  refine DFin.fzA r3 (by simp [upd, h1, h2, h3]) ?_
  simp (disch := omega) only [go_sem, ↓reduceIte, h1, h2, h3]
  refine DFin.fzA r2 (by simp [upd, h1, h2, h3]) ?_
  simp (disch := omega) only [go_sem, ↓reduceIte, h1, h2, h3]
  refine DFin.fzA r1 h1.2.2 ?_
  simp (disch := omega) only [go_sem, ↓reduceIte, h1, h2, h3]
  exact DFin.refl ⟨rfl, rfl⟩
end Go.Dl

-- The examples of chapter 32.
namespace Go.Dl
open Go Go.Proofs
set_option maxRecDepth 10000
set_option maxHeartbeats 4000000

def sPS : PS := ⟨true, 1, [[3, 5], [4]]⟩
theorem awake32_spec (G : Nat → DVal) (hG : ∀ g, ∃ r o, G g = .optr r o) (H : DHeap) : DCalls Try.prog G 4 [] H (DRet (.bool true) H) := by
  refine dcalls_intro Try.func4 Try.call4 rfl (by kernel_rfl) ?_
  simp (disch := omega) only [go_sem, ↓reduceIte]
  refine (some_spec G _).mono ?_
  rintro _ H ⟨rfl, rfl⟩
  simp (disch := omega) only [go_sem, ↓reduceIte]
  (intro a1 ha1; dsimp only at ha1; try simp only [upd_eq_none] at ha1)
  (try simp (disch := omega) only [go_sem, ↓reduceIte, ha1])
  refine DCalls.fzA a1 (by simp [upd, ha1]) ?_
  (try simp (disch := omega) only [go_sem, ↓reduceIte, ha1])
  refine (OwnR2.frozen (end_spec G sPS [false, false] _ (by decide) (by decide) (by decide))).mono ?_
  rintro _ H ⟨rfl, rfl⟩
  rw [show endL sPS [false, false] = (⟨false, 0, [[3, 5], [4]]⟩, ZH, 0) by decide]
  simp (disch := omega) only [go_sem, ↓reduceIte, dR2, dR1, dH, ZH, ZPS]
  intro c1 hc1; dsimp only at hc1; try simp only [upd_eq_none] at hc1
  simp (disch := omega) only [go_sem, ↓reduceIte, hc1]
  intro c2 hc2; dsimp only at hc2; try simp only [upd_eq_none] at hc2
  simp (disch := omega) only [go_sem, ↓reduceIte, hc2]
  refine (some_spec G _).mono ?_
  rintro _ H ⟨rfl, rfl⟩
  simp (disch := omega) only [go_sem, ↓reduceIte]
  (intro a2 ha2; dsimp only at ha2; try simp only [upd_eq_none] at ha2)
  (try simp (disch := omega) only [go_sem, ↓reduceIte, ha2])
  refine DCalls.fzA a2 (by simp [upd, ha2]) ?_
  (try simp (disch := omega) only [go_sem, ↓reduceIte, ha2])
  refine (OwnR2.frozen (end_spec G sPS [true, true] _ (by decide) (by decide) (by decide))).mono ?_
  rintro _ H ⟨rfl, rfl⟩
  rw [show endL sPS [true, true] = (⟨true, 3, [[5], [4]]⟩, (true, 3, 0), 0) by decide]
  simp (disch := omega) only [go_sem, ↓reduceIte, dR2, dR1, dH, ZH, ZPS]
  intro c4 hc4; dsimp only at hc4; try simp only [upd_eq_none] at hc4
  simp (disch := omega) only [go_sem, ↓reduceIte, hc4]
  intro c5 hc5; dsimp only at hc5; try simp only [upd_eq_none] at hc5
  simp (disch := omega) only [go_sem, ↓reduceIte, hc5]
  refine (some_spec G _).mono ?_
  rintro _ H ⟨rfl, rfl⟩
  simp (disch := omega) only [go_sem, ↓reduceIte]
  (intro a3 ha3; dsimp only at ha3; try simp only [upd_eq_none] at ha3)
  (try simp (disch := omega) only [go_sem, ↓reduceIte, ha3])
  refine DCalls.fzA a3 (by simp [upd, ha3]) ?_
  (try simp (disch := omega) only [go_sem, ↓reduceIte, ha3])
  refine (OwnR2.frozen (wait_spec G sPS 1 [false, true] _ (by decide) (by decide) (by decide))).mono ?_
  rintro _ H ⟨rfl, rfl⟩
  rw [show waitL sPS 1 [false, true] = (⟨true, 4, [[3, 5], [1]]⟩, (true, 4, 1), 0) by decide]
  simp (disch := omega) only [go_sem, ↓reduceIte, dR2, dR1, dH, ZH, ZPS]
  intro c7 hc7; dsimp only at hc7; try simp only [upd_eq_none] at hc7
  simp (disch := omega) only [go_sem, ↓reduceIte, hc7]
  intro c8 hc8; dsimp only at hc8; try simp only [upd_eq_none] at hc8
  simp (disch := omega) only [go_sem, ↓reduceIte, hc8]
  refine (some_spec G _).mono ?_
  rintro _ H ⟨rfl, rfl⟩
  simp (disch := omega) only [go_sem, ↓reduceIte]
  refine (OwnR1.frozen (begin_spec G sPS 2 0 0 _ (by decide) (by decide))).mono ?_
  rintro _ H ⟨rfl, rfl⟩
  rw [show beginL sPS 2 0 0 = (ZPS, 8) by decide]
  simp (disch := omega) only [go_sem, ↓reduceIte, dR2, dR1, dH, ZH, ZPS]
  intro c10 hc10; dsimp only at hc10; try simp only [upd_eq_none] at hc10
  simp (disch := omega) only [go_sem, ↓reduceIte, hc10]
  refine (some_spec G _).mono ?_
  rintro _ H ⟨rfl, rfl⟩
  simp (disch := omega) only [go_sem, ↓reduceIte]
  refine (OwnR1.frozen (begin_spec G sPS 3 0 0 _ (by decide) (by decide))).mono ?_
  rintro _ H ⟨rfl, rfl⟩
  rw [show beginL sPS 3 0 0 = (ZPS, 7) by decide]
  simp (disch := omega) only [go_sem, ↓reduceIte, dR2, dR1, dH, ZH, ZPS]
  intro c12 hc12; dsimp only at hc12; try simp only [upd_eq_none] at hc12
  simp (disch := omega) only [go_sem, ↓reduceIte, hc12]
  refine DCalls.leArgs (.cons (.nilQ _ _) (.refl _)) ?_
  refine (OwnR1.frozen (begin_spec G ZPS 1 4 3 _ (by decide) (by decide))).mono ?_
  rintro _ H ⟨rfl, rfl⟩
  rw [show beginL ZPS 1 4 3 = (ZPS, 4) by decide]
  simp (disch := omega) only [go_sem, ↓reduceIte, dR2, dR1, dH, ZH, ZPS]
  intro c14 hc14; dsimp only at hc14; try simp only [upd_eq_none] at hc14
  simp (disch := omega) only [go_sem, ↓reduceIte, hc14]
  refine dwp_draws (by kernel_rfl) (.take 0 (.take 1 (.take 2 (.take 3 (.take 4 (.take 5 (.take 6 (.take 7 (.take 8 (.go 9 [8] (.take 10 (.take 11 (.go 12 [] (.take 13 (.take 14 (.take 15 (.take 16 (.take 17 (.take 18 (.take 19 (.take 20 (.take 21 (.take 22 (.take 23 .done)))))))))))))))))))))))) (by kernel_rfl) ?_
  simp (disch := omega) only [go_sem, ↓reduceIte, hc1, hc2, hc4, hc5, hc7, hc8, hc10, hc12, hc14]
  refine (some_spec G _).mono ?_
  rintro _ H ⟨rfl, rfl⟩
  simp (disch := omega) only [go_sem, ↓reduceIte, hc1, hc2, hc4, hc5, hc7, hc8, hc10, hc12, hc14]
  refine (fsame_spec G hG ⟨false, 0, [[3, 5], [4]]⟩ ⟨false, 0, [[3, 5], [4]]⟩ _ (by decide) (by decide) (by decide) (by decide)).mono ?_
  rintro _ H ⟨rfl, rfl⟩
  simp (disch := omega) only [go_sem, ↓reduceIte, KeepK, hc1, hc2, hc4, hc5, hc7, hc8, hc10, hc12, hc14]
  (intro a4 ha4; dsimp only at ha4; try simp only [upd_eq_none] at ha4)
  (try simp (disch := omega) only [go_sem, ↓reduceIte, ha4])
  (intro a5 ha5; dsimp only at ha5; try simp only [upd_eq_none] at ha5)
  (try simp (disch := omega) only [go_sem, ↓reduceIte, ha4, ha5])
  (intro a6 ha6; dsimp only at ha6; try simp only [upd_eq_none] at ha6)
  (try simp (disch := omega) only [go_sem, ↓reduceIte, ha4, ha5, ha6])
  refine DCalls.fzA a6 (by simp [upd, ha4, ha5, ha6]) ?_
  (try simp (disch := omega) only [go_sem, ↓reduceIte, ha4, ha5, ha6])
  refine DCalls.fzA a5 (by simp [upd, ha4, ha5, ha6]) ?_
  (try simp (disch := omega) only [go_sem, ↓reduceIte, ha4, ha5, ha6])
  refine DCalls.fzA a4 (by simp [upd, ha4, ha5, ha6]) ?_
  (try simp (disch := omega) only [go_sem, ↓reduceIte, ha4, ha5, ha6])
  refine (fsame_spec G hG ⟨true, 3, [[5], [4]]⟩ ⟨true, 3, [[5], [4]]⟩ _ (by decide) (by decide) (by decide) (by decide)).mono ?_
  rintro _ H ⟨rfl, rfl⟩
  simp (disch := omega) only [go_sem, ↓reduceIte, hc1, hc2, hc4, hc5, hc7, hc8, hc10, hc12, hc14]
  (intro a7 ha7; dsimp only at ha7; try simp only [upd_eq_none] at ha7)
  (try simp (disch := omega) only [go_sem, ↓reduceIte, ha7])
  (intro a8 ha8; dsimp only at ha8; try simp only [upd_eq_none] at ha8)
  (try simp (disch := omega) only [go_sem, ↓reduceIte, ha7, ha8])
  (intro a9 ha9; dsimp only at ha9; try simp only [upd_eq_none] at ha9)
  (try simp (disch := omega) only [go_sem, ↓reduceIte, ha7, ha8, ha9])
  refine DCalls.fzA a9 (by simp [upd, ha7, ha8, ha9]) ?_
  (try simp (disch := omega) only [go_sem, ↓reduceIte, ha7, ha8, ha9])
  refine DCalls.fzA a8 (by simp [upd, ha7, ha8, ha9]) ?_
  (try simp (disch := omega) only [go_sem, ↓reduceIte, ha7, ha8, ha9])
  refine DCalls.fzA a7 (by simp [upd, ha7, ha8, ha9]) ?_
  (try simp (disch := omega) only [go_sem, ↓reduceIte, ha7, ha8, ha9])
  refine (fsame_spec G hG ⟨true, 4, [[3, 5], [1]]⟩ ⟨true, 4, [[3, 5], [1]]⟩ _ (by decide) (by decide) (by decide) (by decide)).mono ?_
  rintro _ H ⟨rfl, rfl⟩
  simp (disch := omega) only [go_sem, ↓reduceIte, hc1, hc2, hc4, hc5, hc7, hc8, hc10, hc12, hc14]
  (intro a10 ha10; dsimp only at ha10; try simp only [upd_eq_none] at ha10)
  (try simp (disch := omega) only [go_sem, ↓reduceIte, ha10])
  refine DCalls.fzA a10 (by simp [upd, ha10]) ?_
  (try simp (disch := omega) only [go_sem, ↓reduceIte, ha10])
  refine (active_spec G 3 [5, 1] _ (by decide)).mono ?_
  rintro _ H ⟨rfl, rfl⟩
  rw [show activeL 3 [5, 1] = 5 by decide]
  simp (disch := omega) only [go_sem, ↓reduceIte, hc1, hc2, hc4, hc5, hc7, hc8, hc10, hc12, hc14]
  have n1 : H c1 = none := (by have h := hc1; repeat (first | exact h | replace h := h.2))
  have n2 : H c2 = none := (by have h := hc2; repeat (first | exact h | replace h := h.2))
  have n4 : H c4 = none := (by have h := hc4; repeat (first | exact h | replace h := h.2))
  have n5 : H c5 = none := (by have h := hc5; repeat (first | exact h | replace h := h.2))
  have n7 : H c7 = none := (by have h := hc7; repeat (first | exact h | replace h := h.2))
  have n8 : H c8 = none := (by have h := hc8; repeat (first | exact h | replace h := h.2))
  have n10 : H c10 = none := (by have h := hc10; repeat (first | exact h | replace h := h.2))
  have n12 : H c12 = none := (by have h := hc12; repeat (first | exact h | replace h := h.2))
  have n14 : H c14 = none := (by have h := hc14; repeat (first | exact h | replace h := h.2))
  exact DFin.sub (by repeat (first | assumption | exact sub_refl _ | refine sub_upd ?_ (by assumption) _)) (DFin.refl ⟨rfl, rfl⟩)
end Go.Dl

-- A copy of lists, over rows of the call's own.
namespace Go.Dl
open Go Go.Proofs
set_option maxRecDepth 10000

end Go.Dl

-- LockReleases: what a release comes to.
namespace Go.Dl
open Go Go.Proofs
set_option maxRecDepth 10000
set_option maxHeartbeats 4000000

theorem release_may {q : List (List Int)} {o : List Bool} (hm : mayQ q = true) : mayS (releaseL q o).1 = true ∧ (releaseL q o).1.q.length = q.length := by
  unfold releaseL
  cases hp : openP q o with
  | none => exact ⟨by simp [mayS, hm], rfl⟩
  | some p =>
    obtain ⟨l, h1, h2, h3⟩ := openP_first hp
    have hlt := (List.getElem?_eq_some_iff.1 h1).1
    have hqe : q[p.1] = p.2 :: l := (List.getElem?_eq_some_iff.1 h1).2
    have hg : q.getD p.1 [] = p.2 :: l := by rw [List.getD_eq_getElem?_getD, h1]; rfl
    have ht : (takeL q p.1).1 = q.set p.1 l := by rw [takeL_eq hm, if_neg (by omega), hg]
    have hu : p.2 ∈ q[p.1] := by rw [hqe]; exact List.mem_cons_self
    have hmq' := mayQ_part hm hlt (l := l) (by rw [hqe]; exact List.sublist_cons_self _ _)
    have hnd := mayQ_rowNodup hm hlt
    have hul : p.2 ∉ l := by rw [hqe] at hnd; exact (List.nodup_cons.1 hnd).1
    have hpm := part_mem hm hlt hu (l := l) fun x => by
      rw [hqe, List.mem_cons]
      exact ⟨fun h => ⟨.inr h, fun e => hul (e ▸ h)⟩, fun h => h.1.resolve_left h.2⟩
    have hr := mayQ_range hm (mem_flat.2 ⟨p.1, by rw [hg]; exact List.mem_cons_self⟩)
    have hn : p.2 ∉ (q.set p.1 l).flatten := fun h => by
      obtain ⟨e, he⟩ := mem_flat.1 h
      exact ((hpm _ _).1 he).2 rfl
    refine ⟨?_, by simp [ht]⟩
    simp only [mayS, ht, hmq', Bool.true_and, if_true, isTask, decide_eq_true hr, decide_eq_false hn, Bool.not_false]
theorem takeL_first {q : List (List Int)} {o : List Bool} {p : Nat × Int} (hm : mayQ q = true) (h : openP q o = some p) : ∃ l, ∃ hlt : p.1 < q.length, q[p.1] = p.2 :: l ∧ (takeL q p.1).1 = q.set p.1 l ∧ o.getD p.1 false = true ∧ ∀ j, j < p.1 → o.getD j false = true → q.getD j [] = [] := by
  obtain ⟨l, h1, h2, h3⟩ := openP_first h
  have hlt := (List.getElem?_eq_some_iff.1 h1).1
  have hqe : q[p.1] = p.2 :: l := (List.getElem?_eq_some_iff.1 h1).2
  have hg : q.getD p.1 [] = p.2 :: l := by rw [List.getD_eq_getElem?_getD, h1]; rfl
  exact ⟨l, hlt, hqe, by rw [takeL_eq hm, if_neg (by omega), hg], h2, h3⟩
theorem openP_no {q : List (List Int)} {o : List Bool} (h : openP q o = none) : ∀ j, o.getD j false = true → q.getD j [] = [] := fun j hj => by
  cases hr : q.getD j [] with
  | nil => rfl
  | cons u l =>
    have hlt : j < q.length := by
      rcases Nat.lt_or_ge j q.length with h1 | h1
      · exact h1
      · simp [h1] at hr
    have hqe : q[j] = u :: l := by
      rw [List.getD_eq_getElem?_getD, List.getElem?_eq_getElem hlt] at hr; exact hr
    unfold openP at h
    rw [List.find?_eq_none] at h
    have hmem : (j, u) ∈ clp 0 q := by
      have : ∀ (s : Nat) (q : List (List Int)) (j : Nat) (hlt : j < q.length), u ∈ q[j] → (s + j, u) ∈ clp s q := by
        intro s q
        induction q generalizing s with
        | nil => intro j hlt; simp at hlt
        | cons m q ih =>
          intro j hlt hu
          cases j with
          | zero => simp only [clp, List.mem_append, List.mem_map]; exact .inl ⟨u, hu, rfl⟩
          | succ j =>
            simp only [clp, List.mem_append]
            have := ih (s + 1) j (by simpa using hlt) (by simpa using hu)
            rw [show s + 1 + j = s + (j + 1) by omega] at this
            exact .inr this
      have := this 0 q j hlt (by rw [hqe]; exact List.mem_cons_self)
      rwa [Nat.zero_add] at this
    exact absurd hj (h _ hmem)

end Go.Dl

-- LockReleases: the walk.
namespace Go.Dl
open Go Go.Proofs
set_option maxRecDepth 10000
set_option maxHeartbeats 4000000

/-- What a round keeps: the state's box, the two ways. -/
def LR (r3 r25 : Nat) (ow : Int) (q : List (List Int)) (H heap : DHeap) : Prop :=
  heap r3 = some (.cells [.bool true, dI ow, dIss q] 36) ∧ heap r25 = some (.cells [.bool false, .bool true] 4) ∧ ∀ b o, H b = some o → heap b = some o

/-- The lists that are compared with: rows of the call's own. -/
def UOk (q : List (List Int)) (u : DVal) (Hc : DHeap) : Prop :=
  (q = [] ∧ u = .nilSlice) ∨ ∃ rm vs B H5, u = .oslice 1 rm 0 q.length q.length ∧ Hc rm = some (.cells vs 27) ∧ OwnRows 3 B q vs H5 ∧ ∀ b o, H5 b = some o → Hc b = some o
theorem OwnLL.uok {H Hc : DHeap} {q : List (List Int)} {u : DVal} (h : OwnLL 3 27 H q u Hc) : UOk q u Hc := by
  rcases h with ⟨h1, h2, _⟩ | ⟨rm, vs, H5, h1, h2, h3, rfl⟩
  · exact .inl ⟨h1, h2⟩
  · exact .inr ⟨rm, vs, H, H5, h3, upd_same _ _ _, h1, sub_upd (sub_refl _) h2 _⟩
theorem UOk.up {q : List (List Int)} {u : DVal} {Hc Hd : DHeap} (h : UOk q u Hc) (hs : ∀ b o, Hc b = some o → Hd b = some o) : UOk q u Hd := by
  rcases h with h | ⟨rm, vs, B, H5, h1, h2, h3, h4⟩
  · exact .inl h
  · exact .inr ⟨rm, vs, B, H5, h1, hs _ _ h2, h3, fun b o hb => hs _ _ (h4 b o hb)⟩
theorem UOk.len {q : List (List Int)} {u : DVal} {Hc : DHeap} (h : UOk q u Hc) (e : TypeId) (dst : Option Nat) (K : DK) (st : DS) : dLen dst (some (.slice e)) u K st = dput dst (dI q.length) K st := by
  rcases h with ⟨h1, rfl⟩ | ⟨rm, vs, B, H5, rfl, _⟩
  · rw [h1]; rfl
  · rfl
/-- Row i. -/
theorem UOk.row {q : List (List Int)} {Hc : DHeap} {vs : List DVal} {B H5 : DHeap} (h3 : OwnRows 3 B q vs H5) (h4 : ∀ b o, H5 b = some o → Hc b = some o) {i : Nat} (hi : i < q.length) :
    ∃ v, vs[i]? = some v ∧ ViewsR Hc v q[i] ∧ (∀ dst K st, dLen dst (some (.slice 3)) v K st = dput dst (dI q[i].length) K st) ∧ ∀ x l, q[i] = x :: l → ∃ r off lo cs, v = .oslice 1 r off (l.length + 1) (lo + 1) ∧ Hc r = some (.cells cs 3) ∧ cs[off]? = some (dI x) ∧ l.length ≤ lo ∧ ViewsR Hc (.oslice 1 r (off + 1) l.length lo) l := by
  obtain ⟨v, hv, hvr, hv2⟩ := rows_get h3 hi
  refine ⟨v, hv, hvr.up h4, fun dst K st => ?_, fun x l hx => ?_⟩
  · rcases hv2 with ⟨h1, rfl⟩ | ⟨r, off, lo, rfl⟩
    · rw [h1]; rfl
    · rfl
  · obtain ⟨r, off, lo, cs, g1, g2, g3, g4, g5, g6⟩ := rows_front h3 hi hx (Disj.h0 H5)
    rw [over_h0] at g2
    rw [hv] at g1
    cases g1
    obtain ⟨v2, m1, m2, _⟩ := rows_get g5 (n := i) (by simpa using hi)
    have hlt : i < vs.length := by rw [h3.len]; exact hi
    rw [List.getElem?_set_self hlt] at m1
    cases m1
    refine ⟨r, off, lo, cs, rfl, h4 _ _ g2, g3, g4, ?_⟩
    have := m2.up h4
    simpa using this

theorem heap_eq {F : DHeap → Prop} {H H' : DHeap} (h : H = H') (k : F H') : F H := h ▸ k
end Go.Dl

-- LockSteps: what the calls come to are states.
namespace Go.Dl
open Go Go.Proofs
set_option maxRecDepth 10000

theorem mayQ_nil : mayQ [] = true := by decide
theorem begin_q {s : PS} {t a c : Int} : mayQ (beginL s t a c).1.q = true := by
  unfold beginL
  by_cases hm : mayS s = false
  · rw [if_pos hm]; exact mayQ_nil
  · rw [if_neg hm]
    split
    · exact mayQ_nil
    · split
      · exact mayQ_nil
      · split
        · exact mayQ_nil
        · exact mayS_q (s := s) (by simpa using hm)
theorem finish_q {s s1 : PS} {o : List Bool} (h : s.locked = true → mayQ s1.q = true) : mayQ (finishL s s1 o).1.q = true := by
  unfold finishL
  split
  · exact mayQ_nil
  · rename_i hl
    exact mayS_q (release_may (h (by simpa using hl))).1
theorem end_q {s : PS} {o : List Bool} : mayQ (endL s o).1.q = true := by
  unfold endL
  by_cases hm : mayS s = false
  · rw [if_pos hm]; exact mayQ_nil
  · rw [if_neg hm]; exact finish_q fun _ => mayS_q (by simpa using hm)
theorem wait_q {s : PS} {n : Int} {o : List Bool} : mayQ (waitL s n o).1.q = true := by
  unfold waitL
  by_cases hm : mayS s = false
  · rw [if_pos hm]; exact mayQ_nil
  · rw [if_neg hm]
    split
    · exact mayQ_nil
    · rename_i hn
      exact finish_q fun hl => waitS_may (by simpa using hm) (by omega) hl
theorem remove_q {q : List (List Int)} {t : Int} (h : mayQ q = true) : mayQ (removeL q t).1 = true := by
  by_cases ht : 0 ≤ t ∧ t < 32
  · by_cases hm : t ∈ q.flatten
    · obtain ⟨e, he⟩ := mem_flat.1 hm
      have hlt : e < q.length := by
        rcases Nat.lt_or_ge e q.length with h1 | h1
        · exact h1
        · simp [h1] at he
      have he' : t ∈ q[e] := by simpa [hlt] using he
      rw [removeL_at h hlt he']
      exact mayQ_part h hlt List.filter_sublist
    · rw [removeL_no h ht hm]; exact mayQ_nil
  · rw [removeL, h, if_neg (by simp), if_pos ht]; exact mayQ_nil
theorem leave_q {s : PS} {t : Int} : mayQ (leaveL s t).1.q = true := by
  unfold leaveL
  by_cases hm : mayS s = false
  · rw [if_pos hm]; exact mayQ_nil
  · rw [if_neg hm]
    split
    · exact mayQ_nil
    · exact remove_q (mayS_q (by simpa using hm))
theorem new_q {n : Int} : mayQ (newL n).1.q = true := by
  unfold newL
  split
  · rename_i h
    have : ∀ k, ∀ x ∈ List.replicate k ([] : List Int), x = [] := fun k x hx => (List.mem_replicate.1 hx).2
    have hf : (List.replicate n.toNat ([] : List Int)).flatten = [] := by
      rw [List.flatten_eq_nil_iff]; exact this _
    simp [mayQ, hf]; omega
  · exact mayQ_nil
end Go.Dl

-- LockFree, the plain law: tasks and objects on one processor.
namespace Go.Dl
open Go Go.Proofs
set_option maxRecDepth 10000
set_option maxHeartbeats 4000000
/-- A list of places, changed at one. -/
def set1 {α : Type} (f : Nat → α) (i : Nat) (x : α) : Nat → α := fun j => if j = i then x else f j
theorem set1_same {α : Type} (f : Nat → α) (i : Nat) (x : α) : set1 f i x i = x := if_pos rfl
theorem set1_ne {α : Type} (f : Nat → α) {i j : Nat} (x : α) (h : j ≠ i) : set1 f i x j = f j := if_neg h
structure LW where
  base : Nat → Int
  held : Nat → List Nat
  state : Nat → Int
  ready : Nat → List Nat
  ceil : Nat → Int
  obj : Nat → PS
  model : Nat → List (List Int)
namespace LW
def act (w : LW) (t : Nat) : Int := activeL (w.base t) ((w.held t).map w.ceil)
def drop (w : LW) (t : Nat) : LW := { w with ready := fun p => (w.ready p).filter fun x => !decide (x = t) }
def ins (w : LW) (t : Nat) (f : Bool) : LW :=
  { w with state := set1 w.state t 1, ready := set1 w.ready (w.act t).toNat (if f then t :: w.ready (w.act t).toNat else w.ready (w.act t).toNat ++ [t]) }
def put (w : LW) (t : Nat) (f : Bool) : LW := (w.drop t).ins t f
/-- The task that runs, below a priority. -/
def runG (w : LW) : Nat → Option Nat
  | 0 => none
  | p + 1 => match w.ready p with
    | t :: _ => some t
    | [] => w.runG p
def begin (w : LW) (t o : Nat) : LW := ({ w with obj := set1 w.obj o ⟨true, t, (w.obj o).q⟩, held := set1 w.held t (w.held t ++ [o]) } : LW).put t true
/-- The end of the innermost action of a task. -/
def over (w : LW) (t o : Nat) (s : PS) (h : Bool × Int × Int) : LW :=
  let w1 : LW := { w with held := set1 w.held t (w.held t).dropLast }
  let w2 := if w.state t = 1 then w1.put t (decide ((w.held t).dropLast ≠ [])) else w1
  let w3 : LW := { w2 with obj := set1 w2.obj o s, model := set1 w2.model o s.q }
  if h.1 = true then ({ w3 with held := set1 w3.held h.2.1.toNat [o] } : LW).put h.2.1.toNat true else w3
end LW
theorem activeL_ge : ∀ (l : List Int) (b : Int), b ≤ activeL b l ∧ ∀ x ∈ l, x ≤ activeL b l
  | [], b => ⟨Int.le_refl b, by simp⟩
  | y :: l, b => by
    obtain ⟨h1, h2⟩ := activeL_ge l (max b y)
    have e : activeL b (y :: l) = activeL (max b y) l := rfl
    rw [e]
    refine ⟨by omega, fun x hx => ?_⟩
    rcases List.mem_cons.1 hx with rfl | hx
    · omega
    · exact h2 x hx
theorem activeL_mem : ∀ (l : List Int) (b : Int), activeL b l = b ∨ activeL b l ∈ l
  | [], b => .inl rfl
  | y :: l, b => by
    have e : activeL b (y :: l) = activeL (max b y) l := rfl
    rw [e]
    rcases activeL_mem l (max b y) with h | h
    · rw [h]
      by_cases c : y ≤ b
      · exact .inl (by omega)
      · exact .inr (by rw [show max b y = y by omega]; exact List.mem_cons_self)
    · exact .inr (List.mem_cons_of_mem _ h)
structure LInv (n m : Nat) (us : Nat → Nat → Bool) (s : List Nat) (w : LW) : Prop where
  n8 : n ≤ 8
  base : ∀ t, t < n → 0 ≤ w.base t ∧ w.base t ≤ 7
  ceil : ∀ o, o < m → w.ceil o ≤ 9 ∧ ∀ t, t < n → us t o = true → w.base t ≤ w.ceil o
  objs : ∀ o, o < m → mayS (w.obj o) = true ∧ ((w.obj o).q.length = 0 ∨ (w.obj o).q.length = 2) ∧ w.model o = (w.obj o).q
  held : ∀ t, t < n → ∀ o ∈ w.held t, o < m ∧ us t o = true ∧ (w.obj o).locked = true ∧ (w.obj o).owner = t
  nod : ∀ t, t < n → (w.held t).Nodup
  own : ∀ o, o < m → (w.obj o).locked = true → ∃ t, t < n ∧ (w.obj o).owner = t ∧ o ∈ w.held t
  hst : ∀ t, t < n → t ∉ s → w.held t ≠ [] → w.state t = 1
  ent : ∀ t, t < n → ∀ o ∈ w.held t, (w.obj o).q ≠ [] → ∃ l, w.held t = o :: l
  apart : ∀ t, t < n → ∀ u, u < n → t ≠ u → w.held t ≠ [] → w.held u ≠ [] → (∀ a ∈ w.held t, ∀ b ∈ w.held u, w.ceil a < w.ceil b) ∨ (∀ a ∈ w.held t, ∀ b ∈ w.held u, w.ceil b < w.ceil a)
  rdy : ∀ p, p < 32 → ∀ u, u ∈ w.ready p ↔ u < n ∧ u ∉ s ∧ w.state u = 1 ∧ w.act u = p
  ord : ∀ p, p < 32 → (w.ready p).Pairwise fun a b => w.held b ≠ [] → w.held a ≠ []
  rnd : ∀ p, p < 32 → (w.ready p).Nodup
  wait : ∀ o, o < m → ∀ x ∈ (w.obj o).q.flatten, ∃ t : Nat, x = t ∧ t < n ∧ w.state t = 2 ∧ us t o = true
  uniq : ∀ o, o < m → ∀ o', o' < m → ∀ x, x ∈ (w.obj o).q.flatten → x ∈ (w.obj o').q.flatten → o = o'
section
variable {n m : Nat} {us : Nat → Nat → Bool} {s : List Nat} {w : LW} {t : Nat}
/-- The active priority: the base one, or the greatest ceiling. -/
theorem LInv.act_of (h : LInv n m us s w) (ht : t < n) : (w.held t = [] → w.act t = w.base t) ∧ (∀ a ∈ w.held t, w.ceil a ≤ w.act t) ∧ (w.held t ≠ [] → ∃ a ∈ w.held t, w.act t = w.ceil a) := by
  obtain ⟨g1, g2⟩ := activeL_ge ((w.held t).map w.ceil) (w.base t)
  refine ⟨fun e => by simp [LW.act, e, activeL], fun a ha => g2 _ (List.mem_map_of_mem ha), fun hne => ?_⟩
  rcases activeL_mem ((w.held t).map w.ceil) (w.base t) with e | e
  · obtain ⟨a, l, hl⟩ : ∃ a l, w.held t = a :: l := by
      cases hc : w.held t with
      | nil => exact absurd hc hne
      | cons a l => exact ⟨a, l, rfl⟩
    have ha : a ∈ w.held t := by rw [hl]; exact List.mem_cons_self
    obtain ⟨x1, x2, -⟩ := h.held t ht a ha
    have x3 := (h.ceil a x1).2 t ht x2
    have x4 := g2 _ (List.mem_map_of_mem (f := w.ceil) ha)
    exact ⟨a, ha, by show activeL _ _ = _; omega⟩
  · obtain ⟨a, ha, hb⟩ := List.mem_map.1 e
    exact ⟨a, ha, hb.symm⟩
theorem LInv.act_rng (h : LInv n m us s w) (ht : t < n) : 0 ≤ w.act t ∧ w.act t ≤ 9 := by
  obtain ⟨g1, g2⟩ := activeL_ge ((w.held t).map w.ceil) (w.base t)
  have hb := h.base t ht
  refine ⟨by show 0 ≤ activeL _ _; omega, ?_⟩
  by_cases hne : w.held t = []
  · have := (h.act_of ht).1 hne; omega
  · obtain ⟨a, ha, e⟩ := (h.act_of ht).2.2 hne
    have := (h.ceil a (h.held t ht a ha).1).1
    omega
theorem LInv.drop (h : LInv n m us s w) (hs : ∀ u ∈ s, u = t) : LInv n m us [t] (w.drop t) where
  n8 := h.n8
  base := h.base
  ceil := h.ceil
  objs := h.objs
  held := h.held
  nod := h.nod
  own := h.own
  hst u hu hn hh := h.hst u hu (fun k => hn (by rw [hs u k]; exact List.mem_singleton_self _)) hh
  ent := h.ent
  apart := h.apart
  rdy p hp u := by
    show u ∈ (w.ready p).filter _ ↔ _
    rw [List.mem_filter, h.rdy p hp u]
    simp only [Bool.not_eq_true', decide_eq_false_iff_not, List.mem_singleton]
    constructor
    · exact fun ⟨⟨a, _, c, d⟩, e⟩ => ⟨a, e, c, d⟩
    · exact fun ⟨a, b, c, d⟩ => ⟨⟨a, fun k => b (hs u k), c, d⟩, b⟩
  ord p hp := (h.ord p hp).filter _
  rnd p hp := (h.rnd p hp).filter _
  wait := h.wait
  uniq := h.uniq
/-- A task that is nowhere may be left out. -/
theorem LInv.more (h : LInv n m us s w) {u : Nat} (hu : w.state u ≠ 1) : LInv n m us (u :: s) w := { h with
  hst := fun v hv hn hh => h.hst v hv (fun k => hn (List.mem_cons_of_mem _ k)) hh
  rdy := fun p hp v => by
    rw [h.rdy p hp v, List.mem_cons]
    exact ⟨fun ⟨a, b, c, d⟩ => ⟨a, fun k => k.elim (fun e => hu (e ▸ c)) b, c, d⟩, fun ⟨a, b, c, d⟩ => ⟨a, fun k => b (.inr k), c, d⟩⟩ }
theorem LInv.still (h : LInv n m us (t :: s) w) (hs : w.state t ≠ 1) (hh : w.held t = []) : LInv n m us s w := { h with
  hst := fun v hv hn k => by
    by_cases e : v = t
    · rw [e, hh] at k; exact absurd rfl k
    · exact h.hst v hv (fun x => (List.mem_cons.1 x).elim e hn) k
  rdy := fun p hp v => by
    rw [h.rdy p hp v, List.mem_cons]
    exact ⟨fun ⟨a, b, c, d⟩ => ⟨a, fun k => b (.inr k), c, d⟩, fun ⟨a, b, c, d⟩ => ⟨a, fun k => k.elim (fun e => hs (e ▸ c)) b, c, d⟩⟩ }
theorem LInv.ofMem {s' : List Nat} (h : LInv n m us s w) (e : ∀ x, x ∈ s ↔ x ∈ s') : LInv n m us s' w := { h with
  hst := fun v hv hn k => h.hst v hv (fun x => hn ((e v).1 x)) k
  rdy := fun p hp v => by rw [h.rdy p hp v, e v] }
theorem LInv.ins (h : LInv n m us (t :: s) w) (hts : t ∉ s) (ht : t < n) {f : Bool} (hf : f = true ↔ w.held t ≠ []) (hw : ∀ o, o < m → (t : Int) ∉ (w.obj o).q.flatten) : LInv n m us s (w.ins t f) where
  n8 := h.n8
  base := h.base
  ceil := h.ceil
  objs := h.objs
  held := h.held
  nod := h.nod
  own := h.own
  hst u hu hn hh := by
    show set1 w.state t 1 u = 1
    by_cases e : u = t
    · rw [e, set1_same]
    · rw [set1_ne _ _ e]; exact h.hst u hu (fun x => (List.mem_cons.1 x).elim e hn) hh
  ent := h.ent
  apart := h.apart
  rdy p hp u := by
    have hr := h.act_rng ht
    show u ∈ set1 w.ready (w.act t).toNat _ p ↔ u < n ∧ u ∉ s ∧ set1 w.state t 1 u = 1 ∧ w.act u = p
    have hm : u ∈ set1 w.ready (w.act t).toNat (if f then t :: w.ready (w.act t).toNat else w.ready (w.act t).toNat ++ [t]) p ↔ u ∈ w.ready p ∨ (u = t ∧ w.act t = p) := by
      by_cases e : p = (w.act t).toNat
      · rw [e, set1_same]
        have : w.act t = ((w.act t).toNat : Int) := by omega
        cases f <;> simp [← this, or_comm]
      · rw [set1_ne _ _ e]
        have : ¬ w.act t = p := by omega
        simp [this]
    rw [hm, h.rdy p hp u, List.mem_cons]
    by_cases e : u = t
    · subst e
      rw [set1_same]
      exact ⟨fun k => k.elim (fun k => absurd (.inl rfl) k.2.1) fun k => ⟨ht, hts, rfl, k.2⟩, fun k => .inr ⟨rfl, k.2.2.2⟩⟩
    · rw [set1_ne _ _ e]
      exact ⟨fun k => k.elim (fun ⟨a, b, c, d⟩ => ⟨a, fun x => b (.inr x), c, d⟩) fun k => absurd k.1 e, fun ⟨a, b, c, d⟩ => .inl ⟨a, fun x => x.elim e b, c, d⟩⟩
  ord p hp := by
    show (set1 w.ready (w.act t).toNat _ p).Pairwise _
    by_cases e : p = (w.act t).toNat
    · have ho := h.ord p hp
      rw [e] at ho ⊢
      rw [set1_same]
      cases f with
      | true => exact List.pairwise_cons.2 ⟨fun b _ _ => hf.1 rfl, ho⟩
      | false =>
        rw [if_neg (by simp), List.pairwise_append]
        refine ⟨ho, List.pairwise_singleton _ _, fun a _ b hb k => ?_⟩
        rw [List.mem_singleton.1 hb] at k
        exact absurd (hf.2 k) (by simp)
    · rw [set1_ne _ _ e]; exact h.ord p hp
  rnd p hp := by
    have hnt : t ∉ w.ready p := fun hm => ((h.rdy p hp t).1 hm).2.1 List.mem_cons_self
    show (set1 w.ready (w.act t).toNat _ p).Nodup
    by_cases e : p = (w.act t).toNat
    · have ho := h.rnd p hp
      rw [e] at ho hnt ⊢
      rw [set1_same]
      cases f with
      | true => exact List.nodup_cons.2 ⟨hnt, ho⟩
      | false =>
        rw [if_neg (by simp), List.nodup_append]
        exact ⟨ho, by simp, fun a ha b hb e2 => hnt (by have h3 := List.mem_singleton.1 hb; rw [e2, h3] at ha; exact ha)⟩
    · rw [set1_ne _ _ e]; exact h.rnd p hp
  wait o ho x hx := by
    obtain ⟨v, rfl, a, b, c⟩ := h.wait o ho x hx
    refine ⟨v, rfl, a, ?_, c⟩
    show set1 w.state t 1 v = 2
    by_cases e : v = t
    · exact absurd (e ▸ hx) (hw o ho)
    · rw [set1_ne _ _ e]; exact b
  uniq := h.uniq
theorem LW.runG_some : ∀ {p : Nat}, w.runG p = some t → ∃ q, q < p ∧ (∃ l, w.ready q = t :: l) ∧ ∀ q', q < q' → q' < p → w.ready q' = []
  | 0, h => by cases h
  | p + 1, h => by
    rw [LW.runG] at h
    split at h
    · rename_i u l e
      cases h
      exact ⟨p, by omega, ⟨l, e⟩, fun q' h1 h2 => by omega⟩
    · rename_i e
      obtain ⟨q, h1, h2, h3⟩ := LW.runG_some h
      refine ⟨q, by omega, h2, fun q' k1 k2 => ?_⟩
      by_cases c : q' = p
      · rw [c]; exact e
      · exact h3 q' k1 (by omega)
/-- What it means that a task runs. -/
theorem LInv.run (h : LInv n m us [] w) (hr : w.runG 32 = some t) : t < n ∧ w.state t = 1 ∧ ∀ u, u < n → u ≠ t → w.state u = 1 → w.act u ≤ w.act t ∧ (w.act u = w.act t → w.held u ≠ [] → w.held t ≠ []) := by
  obtain ⟨p, hp, ⟨l, hl⟩, hz⟩ := LW.runG_some hr
  have h1 := (h.rdy p hp t).1 (by rw [hl]; exact List.mem_cons_self)
  refine ⟨h1.1, h1.2.2.1, fun u hu hne hs => ?_⟩
  have hru := h.act_rng hu
  have hm := (h.rdy (w.act u).toNat (by omega) u).2 ⟨hu, by simp, hs, by omega⟩
  have hle : (w.act u).toNat ≤ p := by
    rcases Nat.lt_or_ge p (w.act u).toNat with c | c
    · rw [hz _ c (by omega)] at hm; cases hm
    · exact c
  refine ⟨by omega, fun e hh => ?_⟩
  have e2 : (w.act u).toNat = p := by omega
  rw [e2, hl] at hm
  have ho := h.ord p hp
  rw [hl] at ho
  exact (List.pairwise_cons.1 ho).1 u ((List.mem_cons.1 hm).resolve_left hne) hh
theorem LInv.ready_le (h : LInv n m us s w) {p : Nat} (hp : p < 32) : (w.ready p).length ≤ 32 := by
  have hm : mayQ [(w.ready p).map Int.ofNat] = true := by
    simp only [mayQ, List.length_singleton, List.flatten_cons, List.flatten_nil, List.append_nil, Bool.and_eq_true, decide_eq_true_eq, List.all_eq_true]
    refine ⟨⟨by omega, fun x hx => ?_⟩, (h.rnd p hp).map _ (fun a b hab e => hab (Int.ofNat.inj e))⟩
    obtain ⟨y, hy, rfl⟩ := List.mem_map.1 hx
    have := ((h.rdy p hp y).1 hy).1
    have := h.n8
    simp only [Int.ofNat_eq_natCast]
    omega
  have := mayQ_flat hm
  simpa using this
theorem LInv.arrive (h : LInv n m us [] w) (ht : t < n) (hs : w.state t = 0) : LInv n m us [] (w.put t false) := by
  have hh : w.held t = [] := by
    by_cases c : w.held t = []
    · exact c
    · have := h.hst t ht (by simp) c; omega
  refine LInv.ins (s := []) (h.drop (by simp)) (by simp) ht ?_ fun o ho hx => ?_
  · show false = true ↔ w.held t ≠ []
    rw [hh]; simp
  · obtain ⟨v, e, _, k, _⟩ := h.wait o ho _ hx
    have : v = t := by omega
    rw [this] at k; omega
theorem LInv.goes (h : LInv n m us [] w) (ht : t < n) (hh : w.held t = []) (hw : w.state t = 1) : LInv n m us [] { w.drop t with state := set1 w.state t 0 } := by
  have k := h.drop (t := t) (by simp)
  refine LInv.still (t := t) (s := []) ?_ (by show set1 w.state t 0 t ≠ 1; rw [set1_same]; decide) hh
  exact { k with
    hst := fun u hu hn hne => by
      show set1 w.state t 0 u = 1
      rw [set1_ne _ _ (by simpa using hn)]; exact k.hst u hu hn hne
    rdy := fun p hp u => by
      rw [k.rdy p hp u]
      refine ⟨fun ⟨a, b, c, d⟩ => ⟨a, b, ?_, d⟩, fun ⟨a, b, c, d⟩ => ⟨a, b, ?_, d⟩⟩
      · show set1 w.state t 0 u = 1
        rw [set1_ne _ _ (by simpa using b)]; exact c
      · have c' : set1 w.state t 0 u = 1 := c
        rw [set1_ne _ _ (by simpa using b)] at c'; exact c'
    wait := fun o ho x hx => by
      obtain ⟨v, rfl, a, b, c⟩ := k.wait o ho x hx
      have b' : w.state v = 2 := b
      refine ⟨v, rfl, a, ?_, c⟩
      show set1 w.state t 0 v = 2
      rw [set1_ne _ _ (fun e => by rw [e] at b'; omega)]; exact b' }
/-- No task that runs finds an object locked. -/
theorem LInv.free (h : LInv n m us [] w) (hr : w.runG 32 = some t) {o : Nat} (ho : o < m) (hn : o ∉ w.held t) (hc : w.act t ≤ w.ceil o) : (w.obj o).locked = false := by
  obtain ⟨ht, hs, hrun⟩ := h.run hr
  cases hl : (w.obj o).locked with
  | false => rfl
  | true =>
    exfalso
    obtain ⟨u, hu, _, hm⟩ := h.own o ho hl
    have hne : u ≠ t := fun e => hn (e ▸ hm)
    have hhu : w.held u ≠ [] := List.ne_nil_of_mem hm
    obtain ⟨g1, g2⟩ := hrun u hu hne (h.hst u hu (by simp) hhu)
    have a1 := (h.act_of hu).2.1 o hm
    have hht := g2 (by omega) hhu
    obtain ⟨a, ha, ea⟩ := (h.act_of ht).2.2 hht
    obtain ⟨b, hb, eb⟩ := (h.act_of hu).2.2 hhu
    rcases h.apart t ht u hu (Ne.symm hne) hht hhu with k | k
    · have := k a ha b hb; omega
    · have := k a ha o hm; omega
theorem LInv.waits (h : LInv n m us s w) (hs : w.state t ≠ 2) {o : Nat} (ho : o < m) : (t : Int) ∉ (w.obj o).q.flatten := fun hx => by
  obtain ⟨v, e, _, k, _⟩ := h.wait o ho _ hx
  have : v = t := by omega
  exact hs (this ▸ k)
/-- An action begins. -/
theorem LInv.begin (h : LInv n m us [] w) (hr : w.runG 32 = some t) {o : Nat} (ho : o < m) (hu : us t o = true) (hn : o ∉ w.held t) (hc : w.act t ≤ w.ceil o) (he : w.held t = [] ∨ (w.obj o).q = []) :
    beginL (w.obj o) t (w.act t) (w.ceil o) = (⟨true, t, (w.obj o).q⟩, 0) ∧ LInv n m us [] (w.begin t o) := by
  have hfree := h.free hr ho hn hc
  obtain ⟨ht, hs, hrun⟩ := h.run hr
  obtain ⟨hm, hq, hmo⟩ := h.objs o ho
  have hnw := h.waits (t := t) (by rw [hs]; decide) ho
  have hn8 := h.n8
  have hrg := h.act_rng ht
  have hc9 := (h.ceil o ho).1
  have hmq := mayS_q hm
  refine ⟨?_, ?_⟩
  · rw [beginL, if_neg (by simp [hm]), if_neg (by omega), if_neg (by simp [waitsB, hnw]), if_neg (by simp [hfree])]
  · have k := h.drop (t := t) (by simp)
    have hin : ∀ u a, a ∈ set1 w.held t (w.held t ++ [o]) u → a ∈ w.held u ∨ (u = t ∧ a = o) := fun u a ha => by
      by_cases e : u = t
      · rw [e, set1_same, List.mem_append, List.mem_singleton] at ha
        rw [e]; exact ha.imp id fun x => ⟨rfl, x⟩
      · rw [set1_ne _ _ e] at ha; exact .inl ha
    have hoo : ∀ u, u < n → o ∉ w.held u := fun u hu ha => by
      have := (h.held u hu o ha).2.2.1
      rw [hfree] at this; cases this
    -- what others hold lies below
    have below : ∀ u, u < n → u ≠ t → ∀ b ∈ w.held u, w.ceil b < w.ceil o ∧ ∀ a ∈ w.held t, w.ceil b < w.ceil a := fun u hu hne b hb => by
      have hhu : w.held u ≠ [] := List.ne_nil_of_mem hb
      obtain ⟨g1, g2⟩ := hrun u hu hne (h.hst u hu (by simp) hhu)
      have b1 := (h.act_of hu).2.1 b hb
      by_cases hht : w.held t = []
      · refine ⟨?_, by rw [hht]; simp⟩
        have : w.act u ≠ w.act t := fun e => g2 e hhu hht
        omega
      · obtain ⟨a, ha, ea⟩ := (h.act_of ht).2.2 hht
        obtain ⟨c, hc', ec⟩ := (h.act_of hu).2.2 hhu
        rcases h.apart t ht u hu (Ne.symm hne) hht hhu with k | k
        · have := k a ha c hc'; omega
        · have := k a ha b hb
          exact ⟨by omega, fun a' ha' => k a' ha' b hb⟩
    refine LInv.ins (s := []) (w := ({ w with obj := set1 w.obj o ⟨true, t, (w.obj o).q⟩, held := set1 w.held t (w.held t ++ [o]) } : LW).drop t) ?_ (by simp) ht (by
      show true = true ↔ set1 w.held t (w.held t ++ [o]) t ≠ []
      rw [set1_same]; simp) ?_
    · exact {
        n8 := hn8
        base := k.base
        ceil := k.ceil
        objs := fun o' ho' => by
          show mayS (set1 w.obj o ⟨true, t, (w.obj o).q⟩ o') = true ∧ ((set1 w.obj o ⟨true, t, (w.obj o).q⟩ o').q.length = 0 ∨ (set1 w.obj o ⟨true, t, (w.obj o).q⟩ o').q.length = 2) ∧ w.model o' = (set1 w.obj o ⟨true, t, (w.obj o).q⟩ o').q
          by_cases e : o' = o
          · rw [e, set1_same]
            refine ⟨?_, hq, hmo⟩
            simp only [mayS, if_true, isTask, hmq, Bool.true_and, Bool.and_eq_true, decide_eq_true_eq, Bool.not_eq_true', decide_eq_false_iff_not]
            exact ⟨by omega, hnw⟩
          · rw [set1_ne _ _ e]; exact h.objs o' ho'
        held := fun u hu' a ha => by
          show a < m ∧ us u a = true ∧ (set1 w.obj o _ a).locked = true ∧ (set1 w.obj o _ a).owner = u
          rcases hin u a ha with ha | ⟨rfl, rfl⟩
          · obtain ⟨x1, x2, x3, x4⟩ := h.held u hu' a ha
            have e : a ≠ o := fun e => hoo u hu' (e ▸ ha)
            rw [set1_ne _ _ e]
            exact ⟨x1, x2, x3, x4⟩
          · rw [set1_same]; exact ⟨ho, hu, rfl, rfl⟩
        nod := fun u hu' => by
          show (set1 w.held t (w.held t ++ [o]) u).Nodup
          by_cases e : u = t
          · rw [e, set1_same, List.nodup_append]
            exact ⟨h.nod t ht, by simp, fun a ha b hb => by rw [List.mem_singleton.1 hb]; exact fun e => hn (e ▸ ha)⟩
          · rw [set1_ne _ _ e]; exact h.nod u hu'
        own := fun o' ho' hl => by
          show ∃ u, u < n ∧ (set1 w.obj o _ o').owner = u ∧ o' ∈ set1 w.held t (w.held t ++ [o]) u
          by_cases e : o' = o
          · rw [e, set1_same]
            exact ⟨t, ht, rfl, by rw [set1_same]; simp⟩
          · have hl' : (set1 w.obj o ⟨true, t, (w.obj o).q⟩ o').locked = true := hl
            rw [set1_ne _ _ e] at hl' ⊢
            obtain ⟨u, x1, x2, x3⟩ := h.own o' ho' hl'
            refine ⟨u, x1, x2, ?_⟩
            by_cases e' : u = t
            · rw [e', set1_same]; rw [e'] at x3; exact List.mem_append_left _ x3
            · rw [set1_ne _ _ e']; exact x3
        hst := fun u hu' hn' hne => k.hst u hu' hn' (by
          have hne' : set1 w.held t (w.held t ++ [o]) u ≠ [] := hne
          rw [set1_ne _ _ (by simpa using hn')] at hne'; exact hne')
        ent := fun u hu' a ha hq' => by
          show ∃ l, set1 w.held t (w.held t ++ [o]) u = a :: l
          rcases hin u a ha with ha' | ⟨rfl, rfl⟩
          · have e : a ≠ o := fun e => hoo u hu' (e ▸ ha')
            have hq2 : (set1 w.obj o ⟨true, t, (w.obj o).q⟩ a).q ≠ [] := hq'
            rw [set1_ne _ _ e] at hq2
            obtain ⟨l, hl⟩ := h.ent u hu' a ha' hq2
            by_cases e' : u = t
            · rw [e', set1_same]; rw [e'] at hl; rw [hl]; exact ⟨_, rfl⟩
            · rw [set1_ne _ _ e']; exact ⟨l, hl⟩
          · have hq2 : (set1 w.obj a ⟨true, u, (w.obj a).q⟩ a).q ≠ [] := hq'
            rw [set1_same] at hq2
            rw [set1_same]
            rcases he with he | he
            · exact ⟨[], by rw [he]; rfl⟩
            · exact absurd he hq2
        apart := fun v hv u hu' hne h1 h2 => by
          show (∀ a ∈ set1 w.held t (w.held t ++ [o]) v, ∀ b ∈ set1 w.held t (w.held t ++ [o]) u, w.ceil a < w.ceil b) ∨ (∀ a ∈ set1 w.held t (w.held t ++ [o]) v, ∀ b ∈ set1 w.held t (w.held t ++ [o]) u, w.ceil b < w.ceil a)
          by_cases e : v = t
          · subst e
            rw [set1_same, set1_ne _ _ (Ne.symm hne)]
            refine .inr fun a ha b hb => ?_
            obtain ⟨y1, y2⟩ := below u hu' (Ne.symm hne) b hb
            rcases List.mem_append.1 ha with ha | ha
            · exact y2 a ha
            · rw [List.mem_singleton.1 ha]; exact y1
          · by_cases e' : u = t
            · subst e'
              rw [set1_same, set1_ne _ _ e]
              refine .inl fun a ha b hb => ?_
              obtain ⟨y1, y2⟩ := below v hv e a ha
              rcases List.mem_append.1 hb with hb | hb
              · exact y2 b hb
              · rw [List.mem_singleton.1 hb]; exact y1
            · have h1' : set1 w.held t (w.held t ++ [o]) v ≠ [] := h1
              have h2' : set1 w.held t (w.held t ++ [o]) u ≠ [] := h2
              rw [set1_ne _ _ e] at h1'
              rw [set1_ne _ _ e'] at h2'
              rw [set1_ne _ _ e, set1_ne _ _ e']
              exact h.apart v hv u hu' hne h1' h2'
        rdy := fun p hp u => by
          have := k.rdy p hp u
          refine this.trans ⟨fun ⟨a, b, c, d⟩ => ⟨a, b, c, ?_⟩, fun ⟨a, b, c, d⟩ => ⟨a, b, c, ?_⟩⟩
          · show activeL (w.base u) ((set1 w.held t (w.held t ++ [o]) u).map w.ceil) = _
            rw [set1_ne _ _ (by simpa using b)]; exact d
          · have d' : activeL (w.base u) ((set1 w.held t (w.held t ++ [o]) u).map w.ceil) = _ := d
            rw [set1_ne _ _ (by simpa using b)] at d'; exact d'
        ord := fun p hp => by
          refine List.Pairwise.imp_of_mem ?_ (k.ord p hp)
          intro a b ha hb hab hh
          have na : a ≠ t := by simpa using ((k.rdy p hp a).1 ha).2.1
          have nb : b ≠ t := by simpa using ((k.rdy p hp b).1 hb).2.1
          have hh' : set1 w.held t (w.held t ++ [o]) b ≠ [] := hh
          show set1 w.held t (w.held t ++ [o]) a ≠ []
          rw [set1_ne _ _ nb] at hh'
          rw [set1_ne _ _ na]; exact hab hh'
        rnd := k.rnd
        wait := fun o' ho' x hx => by
          have hx' : x ∈ (set1 w.obj o ⟨true, t, (w.obj o).q⟩ o').q.flatten := hx
          by_cases e : o' = o
          · rw [e, set1_same] at hx'; rw [e]; exact h.wait o ho x hx'
          · rw [set1_ne _ _ e] at hx'; exact h.wait o' ho' x hx'
        uniq := fun o1 h1 o2 h2 x hx hy => by
          have qq : ∀ o', (set1 w.obj o ⟨true, t, (w.obj o).q⟩ o').q = (w.obj o').q := fun o' => by
            by_cases e : o' = o
            · rw [e, set1_same]
            · rw [set1_ne _ _ e]
          have hx' : x ∈ (set1 w.obj o ⟨true, t, (w.obj o).q⟩ o1).q.flatten := hx
          have hy' : x ∈ (set1 w.obj o ⟨true, t, (w.obj o).q⟩ o2).q.flatten := hy
          rw [qq] at hx' hy'
          exact h.uniq o1 h1 o2 h2 x hx' hy' }
    · intro o' ho' hx
      have hx' : (t : Int) ∈ (set1 w.obj o ⟨true, t, (w.obj o).q⟩ o').q.flatten := hx
      by_cases e : o' = o
      · rw [e, set1_same] at hx'; exact hnw hx'
      · rw [set1_ne _ _ e] at hx'; exact h.waits (t := t) (by rw [hs]; decide) ho' hx'
end
end Go.Dl

-- LockFree, the plain law, continued: an action ends.
namespace Go.Dl
open Go Go.Proofs
set_option maxRecDepth 10000
set_option maxHeartbeats 4000000
def LW.done (w : LW) (t o : Nat) (l : List Nat) (s : PS) : LW := { w with held := set1 w.held t l, obj := set1 w.obj o s, model := set1 w.model o s.q }
section
variable {n m : Nat} {us : Nat → Nat → Bool} {s : List Nat} {w : LW} {t o : Nat} {l : List Nat}
theorem set1_cases {α : Type} (f : Nat → α) (i j : Nat) (x : α) : (j = i ∧ set1 f i x j = x) ∨ (j ≠ i ∧ set1 f i x j = f j) := by
  by_cases e : j = i
  · exact .inl ⟨e, by rw [e, set1_same]⟩
  · exact .inr ⟨e, set1_ne _ _ e⟩
/-- The innermost action is let go. -/
theorem LInv.letGo (k : LInv n m us [t] w) (ht : t < n) (hl : w.held t = l ++ [o]) {q : List (List Int)} (hm : mayQ q = true) (hlen : q.length = (w.obj o).q.length)
    (hw : ∀ x ∈ q.flatten, x ∈ (w.obj o).q.flatten ∨ (x = t ∧ w.state t = 2 ∧ ∀ o', o' < m → (t : Int) ∉ (w.obj o').q.flatten)) : LInv n m us [t] (w.done t o l ⟨false, 0, q⟩) := by
  have hot : o ∈ w.held t := by rw [hl]; simp
  obtain ⟨ho, huo, hlk, how⟩ := k.held t ht o hot
  have hnd := k.nod t ht
  rw [hl, List.nodup_append] at hnd
  have hol : o ∉ l := fun h => hnd.2.2 o h o (by simp) rfl
  have hoo : ∀ u, u < n → u ≠ t → o ∉ w.held u := fun u hu hne ha => by
    have := (k.held u hu o ha).2.2.2
    rw [how] at this; omega
  have hq0 : ∀ {q1 : List (List Int)}, q1 ≠ [] ↔ q1.length ≠ 0 := fun {q1} => by rw [ne_eq, ne_eq, List.length_eq_zero_iff]
  -- what is held now was held, and is not o
  have hin : ∀ u, u < n → ∀ a ∈ set1 w.held t l u, a ∈ w.held u ∧ a ≠ o := fun u hu a ha => by
    rcases set1_cases w.held t u l with ⟨e, h⟩ | ⟨e, h⟩ <;> rw [h] at ha
    · rw [e, hl]; exact ⟨List.mem_append_left _ ha, fun e => hol (e ▸ ha)⟩
    · exact ⟨ha, fun e' => hoo u hu e (e' ▸ ha)⟩
  have hflat : ∀ o' < m, ∀ x ∈ (set1 w.obj o ⟨false, 0, q⟩ o').q.flatten, x ∈ (w.obj o').q.flatten ∨ (x = t ∧ w.state t = 2 ∧ o' = o ∧ ∀ o', o' < m → (t : Int) ∉ (w.obj o').q.flatten) := fun o' ho' x hx => by
    rcases set1_cases w.obj o o' ⟨false, 0, q⟩ with ⟨e, h⟩ | ⟨e, h⟩ <;> rw [h] at hx
    · rw [e]; exact (hw x hx).imp id fun ⟨a, b, c⟩ => ⟨a, b, rfl, c⟩
    · exact .inl hx
  have hact : ∀ u, u ≠ t → (w.done t o l ⟨false, 0, q⟩).act u = w.act u := fun u hu => by
    show activeL (w.base u) ((set1 w.held t l u).map w.ceil) = _
    rw [set1_ne _ _ hu]; rfl
  exact {
    n8 := k.n8
    base := k.base
    ceil := k.ceil
    objs := fun o' ho' => by
      show mayS (set1 w.obj o ⟨false, 0, q⟩ o') = true ∧ ((set1 w.obj o ⟨false, 0, q⟩ o').q.length = 0 ∨ (set1 w.obj o ⟨false, 0, q⟩ o').q.length = 2) ∧ set1 w.model o q o' = (set1 w.obj o ⟨false, 0, q⟩ o').q
      rcases set1_cases w.obj o o' ⟨false, 0, q⟩ with ⟨e, h⟩ | ⟨e, h⟩
      · rw [h, e, set1_same]
        exact ⟨by simp [mayS, hm], by rw [hlen]; exact (k.objs o ho).2.1, rfl⟩
      · rw [h, set1_ne _ _ e]; exact k.objs o' ho'
    held := fun u hu a ha => by
      obtain ⟨g1, g2⟩ := hin u hu a ha
      show a < m ∧ us u a = true ∧ (set1 w.obj o _ a).locked = true ∧ (set1 w.obj o _ a).owner = u
      rw [set1_ne _ _ g2]; exact k.held u hu a g1
    nod := fun u hu => by
      show (set1 w.held t l u).Nodup
      rcases set1_cases w.held t u l with ⟨e, h⟩ | ⟨e, h⟩ <;> rw [h]
      · exact hnd.1
      · exact k.nod u hu
    own := fun o' ho' hlo => by
      have hlo' : (set1 w.obj o ⟨false, 0, q⟩ o').locked = true := hlo
      show ∃ u, u < n ∧ (set1 w.obj o _ o').owner = u ∧ o' ∈ set1 w.held t l u
      rcases set1_cases w.obj o o' ⟨false, 0, q⟩ with ⟨e, h⟩ | ⟨e, h⟩ <;> rw [h] at hlo' ⊢
      · cases hlo'
      · obtain ⟨u, x1, x2, x3⟩ := k.own o' ho' hlo'
        refine ⟨u, x1, x2, ?_⟩
        rcases set1_cases w.held t u l with ⟨e', h'⟩ | ⟨e', h'⟩ <;> rw [h']
        · rw [e', hl] at x3
          exact (List.mem_append.1 x3).resolve_right fun h => e (List.mem_singleton.1 h)
        · exact x3
    hst := fun u hu hn hh => k.hst u hu hn (by
      have hh' : set1 w.held t l u ≠ [] := hh
      rw [set1_ne _ _ (by simpa using hn)] at hh'; exact hh')
    ent := fun u hu a ha hq => by
      obtain ⟨g1, g2⟩ := hin u hu a ha
      have hq' : (set1 w.obj o ⟨false, 0, q⟩ a).q ≠ [] := hq
      rw [set1_ne _ _ g2] at hq'
      obtain ⟨l', hl'⟩ := k.ent u hu a g1 hq'
      show ∃ l', set1 w.held t l u = a :: l'
      have ha' : a ∈ set1 w.held t l u := ha
      rcases set1_cases w.held t u l with ⟨e', h'⟩ | ⟨e', h'⟩ <;> rw [h'] at ha' ⊢
      · rw [e', hl] at hl'
        cases l with
        | nil => cases ha'
        | cons b l2 => cases hl'; exact ⟨l2, rfl⟩
      · exact ⟨l', hl'⟩
    apart := fun v hv u hu hne h1 h2 => by
      have g : ∀ x, x < n → set1 w.held t l x ≠ [] → w.held x ≠ [] := fun x hx hh => by
        obtain ⟨a, ha⟩ := List.exists_mem_of_ne_nil _ hh
        exact List.ne_nil_of_mem (hin x hx a ha).1
      rcases k.apart v hv u hu hne (g v hv h1) (g u hu h2) with h | h
      · exact .inl fun a ha b hb => h a (hin v hv a ha).1 b (hin u hu b hb).1
      · exact .inr fun a ha b hb => h a (hin v hv a ha).1 b (hin u hu b hb).1
    rdy := fun p hp u => by
      refine (k.rdy p hp u).trans ⟨fun ⟨a, b, c, d⟩ => ⟨a, b, c, ?_⟩, fun ⟨a, b, c, d⟩ => ⟨a, b, c, ?_⟩⟩
      · rw [hact u (by simpa using b)]; exact d
      · rw [hact u (by simpa using b)] at d; exact d
    ord := fun p hp => by
      refine List.Pairwise.imp_of_mem ?_ (k.ord p hp)
      intro a b ha hb hab hh
      have na : a ≠ t := by simpa using ((k.rdy p hp a).1 ha).2.1
      have nb : b ≠ t := by simpa using ((k.rdy p hp b).1 hb).2.1
      have hh' : set1 w.held t l b ≠ [] := hh
      show set1 w.held t l a ≠ []
      rw [set1_ne _ _ nb] at hh'
      rw [set1_ne _ _ na]; exact hab hh'
    rnd := k.rnd
    wait := fun o' ho' x hx => by
      rcases hflat o' ho' x hx with g | ⟨g1, g2, g3, g4⟩
      · exact k.wait o' ho' x g
      · exact ⟨t, g1, ht, g2, by rw [g3]; exact huo⟩
    uniq := fun o1 h1 o2 h2 x hx hy => by
      rcases hflat o1 h1 x hx with g | ⟨g1, g2, g3, g4⟩
      · rcases hflat o2 h2 x hy with g' | ⟨g1', g2', g3', g4'⟩
        · exact k.uniq o1 h1 o2 h2 x g g'
        · rw [g1'] at g; exact absurd g (g4' o1 h1)
      · rcases hflat o2 h2 x hy with g' | ⟨g1', g2', g3', g4'⟩
        · rw [g1] at g'; exact absurd g' (g4 o2 h2)
        · rw [g3, g3'] }
/-- A caller is served. -/
theorem LInv.serve (k : LInv n m us [t] w) (ho : o < m) (hlk : (w.obj o).locked = false) {u : Nat} (hut : u ≠ t) (hu : (u : Int) ∈ (w.obj o).q.flatten) {q : List (List Int)} (hm : mayS ⟨true, u, q⟩ = true) (hlen : q.length = (w.obj o).q.length)
    (hw : ∀ x ∈ q.flatten, x ∈ (w.obj o).q.flatten ∧ x ≠ u) (hap : ∀ v, v < n → v ≠ u → w.held v ≠ [] → (∀ b ∈ w.held v, w.ceil o < w.ceil b) ∨ (∀ b ∈ w.held v, w.ceil b < w.ceil o)) :
    LInv n m us [t, u] (w.done u o [o] ⟨true, u, q⟩) ∧ (w.done u o [o] ⟨true, u, q⟩).held u ≠ [] ∧ (∀ o', o' < m → (u : Int) ∉ ((w.done u o [o] ⟨true, u, q⟩).obj o').q.flatten) := by
  obtain ⟨u', e, hun, hsu, huo⟩ := k.wait o ho _ hu
  obtain rfl : u = u' := by omega
  have hhu : w.held u = [] := by
    by_cases c : w.held u = []
    · exact c
    · have := k.hst u hun (by simpa using hut) c; omega
  have k2 : LInv n m us [t, u] w := (k.more (u := u) (by omega)).ofMem (by simp [or_comm])
  have hoo : ∀ v, v < n → o ∉ w.held v := fun v hv ha => by
    have := (k.held v hv o ha).2.2.1
    rw [hlk] at this; cases this
  have hin : ∀ v, v < n → ∀ a ∈ set1 w.held u [o] v, (v = u ∧ a = o) ∨ (v ≠ u ∧ a ∈ w.held v ∧ a ≠ o) := fun v hv a ha => by
    rcases set1_cases w.held u v [o] with ⟨e, h⟩ | ⟨e, h⟩ <;> rw [h] at ha
    · exact .inl ⟨e, List.mem_singleton.1 ha⟩
    · exact .inr ⟨e, ha, fun e' => hoo v hv (e' ▸ ha)⟩
  have hflat : ∀ o' < m, ∀ x ∈ (set1 w.obj o ⟨true, u, q⟩ o').q.flatten, x ∈ (w.obj o').q.flatten ∧ x ≠ u := fun o' ho' x hx => by
    rcases set1_cases w.obj o o' ⟨true, u, q⟩ with ⟨e, h⟩ | ⟨e, h⟩ <;> rw [h] at hx
    · rw [e]; exact hw x hx
    · exact ⟨hx, fun e' => e (k.uniq o' ho' o ho x hx (e' ▸ hu))⟩
  have hact : ∀ v, v ≠ u → (w.done u o [o] ⟨true, u, q⟩).act v = w.act v := fun v hv => by
    show activeL (w.base v) ((set1 w.held u [o] v).map w.ceil) = _
    rw [set1_ne _ _ hv]; rfl
  refine ⟨?_, by show set1 w.held u [o] u ≠ []; rw [set1_same]; simp, fun o' ho' hx => (hflat o' ho' _ hx).2 rfl⟩
  exact {
    n8 := k.n8
    base := k.base
    ceil := k.ceil
    objs := fun o' ho' => by
      show mayS (set1 w.obj o ⟨true, u, q⟩ o') = true ∧ ((set1 w.obj o ⟨true, u, q⟩ o').q.length = 0 ∨ (set1 w.obj o ⟨true, u, q⟩ o').q.length = 2) ∧ set1 w.model o q o' = (set1 w.obj o ⟨true, u, q⟩ o').q
      rcases set1_cases w.obj o o' ⟨true, u, q⟩ with ⟨e, h⟩ | ⟨e, h⟩
      · rw [h, e, set1_same]
        exact ⟨hm, by rw [hlen]; exact (k.objs o ho).2.1, rfl⟩
      · rw [h, set1_ne _ _ e]; exact k.objs o' ho'
    held := fun v hv a ha => by
      show a < m ∧ us v a = true ∧ (set1 w.obj o _ a).locked = true ∧ (set1 w.obj o _ a).owner = v
      rcases hin v hv a ha with ⟨rfl, rfl⟩ | ⟨e, g1, g2⟩
      · rw [set1_same]; exact ⟨ho, huo, rfl, rfl⟩
      · rw [set1_ne _ _ g2]; exact k.held v hv a g1
    nod := fun v hv => by
      show (set1 w.held u [o] v).Nodup
      rcases set1_cases w.held u v [o] with ⟨e, h⟩ | ⟨e, h⟩ <;> rw [h]
      · simp
      · exact k.nod v hv
    own := fun o' ho' hlo => by
      have hlo' : (set1 w.obj o ⟨true, u, q⟩ o').locked = true := hlo
      show ∃ v, v < n ∧ (set1 w.obj o _ o').owner = v ∧ o' ∈ set1 w.held u [o] v
      rcases set1_cases w.obj o o' ⟨true, u, q⟩ with ⟨e, h⟩ | ⟨e, h⟩ <;> rw [h] at hlo' ⊢
      · exact ⟨u, hun, rfl, by rw [set1_same, e]; simp⟩
      · obtain ⟨v, x1, x2, x3⟩ := k.own o' ho' hlo'
        refine ⟨v, x1, x2, ?_⟩
        rcases set1_cases w.held u v [o] with ⟨e', h'⟩ | ⟨e', h'⟩ <;> rw [h']
        · rw [e', hhu] at x3; cases x3
        · exact x3
    hst := fun v hv hn hh => by
      simp only [List.mem_cons, List.not_mem_nil, or_false, not_or] at hn
      exact k.hst v hv (by simpa using hn.1) (by
        have hh' : set1 w.held u [o] v ≠ [] := hh
        rw [set1_ne _ _ hn.2] at hh'; exact hh')
    ent := fun v hv a ha hq => by
      show ∃ l', set1 w.held u [o] v = a :: l'
      rcases hin v hv a ha with ⟨rfl, rfl⟩ | ⟨e, g1, g2⟩
      · exact ⟨[], set1_same _ _ _⟩
      · have hq' : (set1 w.obj o ⟨true, u, q⟩ a).q ≠ [] := hq
        rw [set1_ne _ _ g2] at hq'
        rw [set1_ne _ _ e]; exact k.ent v hv a g1 hq'
    apart := fun v hv x hx hne h1 h2 => by
      have h1' : set1 w.held u [o] v ≠ [] := h1
      have h2' : set1 w.held u [o] x ≠ [] := h2
      show (∀ a ∈ set1 w.held u [o] v, ∀ b ∈ set1 w.held u [o] x, w.ceil a < w.ceil b) ∨ (∀ a ∈ set1 w.held u [o] v, ∀ b ∈ set1 w.held u [o] x, w.ceil b < w.ceil a)
      rcases set1_cases w.held u v [o] with ⟨e, h⟩ | ⟨e, h⟩ <;> rw [h] at h1' ⊢ <;> rcases set1_cases w.held u x [o] with ⟨e', h'⟩ | ⟨e', h'⟩ <;> rw [h'] at h2' ⊢
      · exact absurd (e.trans e'.symm) hne
      · rcases hap x hx e' h2' with g | g
        · exact .inl fun a ha b hb => by rw [List.mem_singleton.1 ha]; exact g b hb
        · exact .inr fun a ha b hb => by rw [List.mem_singleton.1 ha]; exact g b hb
      · rcases hap v hv e h1' with g | g
        · exact .inr fun a ha b hb => by rw [List.mem_singleton.1 hb]; exact g a ha
        · exact .inl fun a ha b hb => by rw [List.mem_singleton.1 hb]; exact g a ha
      · exact k.apart v hv x hx hne h1' h2'
    rdy := fun p hp v => by
      refine (k2.rdy p hp v).trans ⟨fun ⟨a, b, c, d⟩ => ⟨a, b, c, ?_⟩, fun ⟨a, b, c, d⟩ => ⟨a, b, c, ?_⟩⟩
      · rw [hact v (fun e => b (by simp [e]))]; exact d
      · rw [hact v (fun e => b (by simp [e]))] at d; exact d
    ord := fun p hp => by
      refine List.Pairwise.imp_of_mem ?_ (k.ord p hp)
      intro a b ha hb hab hh
      have na : a ≠ u := fun e => by have := ((k2.rdy p hp a).1 ha).2.1; simp [e] at this
      have nb : b ≠ u := fun e => by have := ((k2.rdy p hp b).1 hb).2.1; simp [e] at this
      have hh' : set1 w.held u [o] b ≠ [] := hh
      show set1 w.held u [o] a ≠ []
      rw [set1_ne _ _ nb] at hh'
      rw [set1_ne _ _ na]; exact hab hh'
    rnd := k.rnd
    wait := fun o' ho' x hx => k.wait o' ho' x (hflat o' ho' x hx).1
    uniq := fun o1 h1 o2 h2 x hx hy => k.uniq o1 h1 o2 h2 x (hflat o1 h1 x hx).1 (hflat o2 h2 x hy).1 }
/-- What a release comes to. -/
theorem release_cases {q : List (List Int)} {b : List Bool} (hm : mayQ q = true) :
    (releaseL q b = ((⟨false, 0, q⟩ : PS), false, (0 : Int), (0 : Int)) ∧ openP q b = none) ∨ ∃ (u e : Nat) (q' : List (List Int)), releaseL q b = ((⟨true, u, q'⟩ : PS), true, (u : Int), (e : Int)) ∧ openP q b = some (e, (u : Int)) ∧ (u : Int) ∈ q.getD e [] ∧ b.getD e false = true ∧ mayS ⟨true, u, q'⟩ = true ∧ q'.length = q.length ∧ (∀ x ∈ q'.flatten, x ∈ q.flatten ∧ x ≠ u) := by
  cases hp : openP q b with
  | none => exact .inl ⟨by rw [releaseL, hp], rfl⟩
  | some p =>
    obtain ⟨l, hlt, hqe, htk, hbo, -⟩ := takeL_first hm hp
    have hg : q.getD p.1 [] = p.2 :: l := by rw [List.getD_eq_getElem?_getD, List.getElem?_eq_getElem hlt, hqe]; rfl
    have hu : p.2 ∈ q.getD p.1 [] := by rw [hg]; exact List.mem_cons_self
    have hr := mayQ_range hm (mem_flat.2 ⟨p.1, hu⟩)
    obtain ⟨u, hu2⟩ := Int.eq_ofNat_of_zero_le hr.1
    have hrl : releaseL q b = ((⟨true, p.2, q.set p.1 l⟩ : PS), true, p.2, (p.1 : Int)) := by rw [releaseL, hp]; simp only [htk]
    have hmay := (release_may (o := b) hm).1
    rw [hrl] at hmay
    refine .inr ⟨u, p.1, q.set p.1 l, by rw [hrl, hu2], by rw [← hu2], by rw [show ((u : Nat) : Int) = p.2 from hu2.symm]; exact hu, hbo, by rw [show ((u : Nat) : Int) = p.2 from hu2.symm]; exact hmay, by simp, fun x hx => ?_⟩
    have hnd := mayQ_rowNodup hm hlt
    rw [hqe] at hnd
    have hul : p.2 ∉ l := (List.nodup_cons.1 hnd).1
    obtain ⟨e, he⟩ := mem_flat.1 hx
    have := (part_mem hm hlt (by rw [hqe]; exact List.mem_cons_self) (l := l) (fun y => by
      rw [hqe, List.mem_cons]
      exact ⟨fun h => ⟨.inr h, fun e => hul (e ▸ h)⟩, fun h => h.1.resolve_left h.2⟩) x e).1 he
    exact ⟨mem_flat.2 ⟨e, this.1⟩, by rw [show ((u : Nat) : Int) = p.2 from hu2.symm]; exact this.2⟩
theorem set1_set1 {α : Type} (f : Nat → α) (i : Nat) (x y : α) : set1 (set1 f i x) i y = set1 f i y := by
  funext j; unfold set1; split <;> rfl
/-- The law of `over`: the world that comes of it is a world of the law again. -/
theorem LInv.over (k : LInv n m us [t] (w.drop t)) (ht : t < n) (hs : w.state t = 1 ∨ (w.state t = 2 ∧ l = [] ∧ w.drop t = w)) (hl : w.held t = l ++ [o]) {q : List (List Int)} {b : List Bool} (hm : mayQ q = true) (hlen : q.length = (w.obj o).q.length)
    (hw : ∀ x ∈ q.flatten, x ∈ (w.obj o).q.flatten ∨ (x = t ∧ w.state t = 2 ∧ ∀ o', o' < m → (t : Int) ∉ (w.obj o').q.flatten))
    (hb : ∀ e, (t : Int) ∈ q.getD e [] → b.getD e false = false) : LInv n m us [] (w.over t o (releaseL q b).1 (releaseL q b).2) := by
  have k1 : LInv n m us [t] ((w.drop t).done t o l ⟨false, 0, q⟩) := k.letGo ht hl hm hlen hw
  have hot : o ∈ w.held t := by rw [hl]; simp
  have ho := (k.held t ht o hot).1
  have hd : (w.held t).dropLast = l := by rw [hl, List.dropLast_concat]
  have fin : ∀ (w5 : LW) (s : List Nat), LInv n m us (t :: s) w5 → t ∉ s → w5.held t = l → w5.state t = w.state t → (∀ o', o' < m → w.state t = 1 → (t : Int) ∉ (w5.obj o').q.flatten) → LInv n m us s (if w.state t = 1 then w5.ins t (decide (l ≠ [])) else w5) := by
    intro w5 s h5 hts hh5 hs5 hw5
    split
    · exact h5.ins hts ht (by rw [hh5]; simp) fun o' ho' => hw5 o' ho' ‹_›
    · rcases hs with h | ⟨h, hl0, -⟩
      · exact absurd h ‹_›
      · exact h5.still (by rw [hs5, h]; decide) (by rw [hh5, hl0])
  rcases release_cases (b := b) hm with ⟨hR, -⟩ | ⟨u, e, q', hR, -, hue, hbe, hmq', hlen', hq'⟩
  · rw [hR]
    have hh : ((w.drop t).done t o l ⟨false, 0, q⟩).held t = l := set1_same _ _ _
    have k2 := fin _ [] k1 (by simp) hh rfl fun o' ho' h1 => k1.waits (t := t) (by show w.state t ≠ 2; omega) ho'
    have eq : w.over t o ⟨false, 0, q⟩ (false, 0, 0) = if w.state t = 1 then ((w.drop t).done t o l ⟨false, 0, q⟩).ins t (decide (l ≠ [])) else ((w.drop t).done t o l ⟨false, 0, q⟩) := by
      unfold LW.over
      simp only [hd, Bool.false_eq_true, if_false]
      split
      · rfl
      · rcases hs with h | ⟨_, _, h⟩
        · exact absurd h ‹_›
        · rw [h]; rfl
    rw [eq]; exact k2
  · rw [hR]
    have hut : u ≠ t := fun e' => by
      rw [e'] at hue
      rw [hb e hue] at hbe; cases hbe
    have huq : (u : Int) ∈ q.flatten := mem_flat.2 ⟨e, hue⟩
    have h1o : ((w.drop t).done t o l ⟨false, 0, q⟩).obj o = ⟨false, 0, q⟩ := set1_same _ _ _
    -- t held o alone
    have hl0 : l = [] := by
      have hne : (w.obj o).q ≠ [] := fun h0 => by
        rw [h0] at hlen
        rw [List.length_eq_zero_iff.1 hlen] at huq; cases huq
      obtain ⟨l', hl'⟩ := k.ent t ht o hot hne
      have hnd := k.nod t ht
      have hl2 : w.held t = o :: l' := hl'
      have hnd' : (w.held t).Nodup := hnd
      cases l with
      | nil => rfl
      | cons a l2 =>
        rw [hl2] at hl
        injection hl with h1 h2
        rw [hl2, List.nodup_cons] at hnd'
        exact absurd (by rw [h2]; simp) hnd'.1
    have hheld : w.held t = [o] := by rw [hl, hl0]; rfl
    obtain ⟨k2, hhu, hwu⟩ := k1.serve (u := u) (q := q') ho (by rw [h1o]) hut (by rw [h1o]; exact huq) hmq' (by rw [h1o]; exact hlen') (by rw [h1o]; exact hq') (fun v hv hvu hh => by
      have hvt : v ≠ t := fun e' => by
        have hh' : set1 w.held t l v ≠ [] := hh
        rw [e', set1_same] at hh'; exact hh' hl0
      have hh' : set1 w.held t l v ≠ [] := hh
      show (∀ b ∈ set1 w.held t l v, w.ceil o < w.ceil b) ∨ (∀ b ∈ set1 w.held t l v, w.ceil b < w.ceil o)
      rw [set1_ne _ _ hvt] at hh' ⊢
      have hot' : o ∈ (w.drop t).held t := hot
      rcases k.apart t ht v hv (Ne.symm hvt) (List.ne_nil_of_mem hot) hh' with g | g
      · exact .inl fun b hb => g o hot' b hb
      · exact .inr fun b hb => g o hot' b hb)
    have hun : u < n := by
      obtain ⟨u', e1, e2, -⟩ := k1.wait o ho _ (by rw [h1o]; exact huq)
      omega
    have k3 := fin _ [u] k2 (by simpa using Ne.symm hut) (by
      show set1 (set1 w.held t l) u [o] t = l
      rw [set1_ne _ _ (Ne.symm hut), set1_same]) rfl fun o' ho' h1 => k2.waits (t := t) (by show w.state t ≠ 2; omega) ho'
    have k4 : LInv n m us [] ((if w.state t = 1 then (((w.drop t).done t o l ⟨false, 0, q⟩).done u o [o] ⟨true, u, q'⟩).ins t (decide (l ≠ [])) else (((w.drop t).done t o l ⟨false, 0, q⟩).done u o [o] ⟨true, u, q'⟩)).put u true) := by
      refine LInv.ins (s := []) (k3.drop (t := u) (by simp)) (by simp) hun ?_ ?_
      · refine ⟨fun _ => ?_, fun _ => rfl⟩
        split <;> exact hhu
      · intro o' ho' hx
        split at hx <;> exact hwu o' ho' hx
    have eq : w.over t o ⟨true, u, q'⟩ (true, (u : Int), (e : Int)) = (if w.state t = 1 then (((w.drop t).done t o l ⟨false, 0, q⟩).done u o [o] ⟨true, u, q'⟩).ins t (decide (l ≠ [])) else (((w.drop t).done t o l ⟨false, 0, q⟩).done u o [o] ⟨true, u, q'⟩)).put u true := by
      unfold LW.over
      simp only [hd, if_true, Int.toNat_natCast]
      congr 1
      have hac : (((w.drop t).done t o l ⟨false, 0, q⟩).done u o [o] ⟨true, u, q'⟩).act t = (({ w with held := set1 w.held t l } : LW).drop t).act t := by
        show activeL (w.base t) ((set1 (set1 w.held t l) u [o] t).map w.ceil) = activeL (w.base t) ((set1 w.held t l t).map w.ceil)
        rw [set1_ne _ _ (Ne.symm hut)]
      split
      · unfold LW.put LW.ins
        rw [hac]
        simp only [LW.done, set1_set1]; rfl
      · rcases hs with h | ⟨_, _, h⟩
        · exact absurd h ‹_›
        · rw [h]; simp only [LW.done, set1_set1]
    rw [eq]; exact k4
theorem LInv.endA (h : LInv n m us [] w) (hr : w.runG 32 = some t) (hl : w.held t = l ++ [o]) (b : List Bool) :
    endL (w.obj o) b = ((releaseL (w.obj o).q b).1, (releaseL (w.obj o).q b).2, 0) ∧ LInv n m us [] (w.over t o (releaseL (w.obj o).q b).1 (releaseL (w.obj o).q b).2) := by
  obtain ⟨ht, hs, -⟩ := h.run hr
  obtain ⟨ho, -, hlk, -⟩ := h.held t ht o (by rw [hl]; simp)
  have hm := (h.objs o ho).1
  have hnw := h.waits (t := t) (by rw [hs]; decide) ho
  refine ⟨by rw [endL, if_neg (by simp [hm]), finishL, if_neg (by simp [hlk])], ?_⟩
  refine (h.drop (t := t) (by simp)).over ht (.inl hs) hl (mayS_q hm) rfl (fun x hx => .inl hx) fun e he => ?_
  exact absurd (mem_flat.2 ⟨e, he⟩) hnw
theorem LInv.waitA (h : LInv n m us [] w) (hr : w.runG 32 = some t) (hl : w.held t = [o]) {e : Nat} (he : e < (w.obj o).q.length) {b : List Bool} (hb : b.getD e false = false) :
    waitL (w.obj o) e b = ((releaseL ((w.obj o).q.set e ((w.obj o).q.getD e [] ++ [(t : Int)])) b).1, (releaseL ((w.obj o).q.set e ((w.obj o).q.getD e [] ++ [(t : Int)])) b).2, 0) ∧
    LInv n m us [] (({ w.drop t with state := set1 w.state t 2, model := set1 w.model o ((w.obj o).q.set e ((w.obj o).q.getD e [] ++ [(t : Int)])) } : LW).over t o (releaseL ((w.obj o).q.set e ((w.obj o).q.getD e [] ++ [(t : Int)])) b).1 (releaseL ((w.obj o).q.set e ((w.obj o).q.getD e [] ++ [(t : Int)])) b).2) := by
  obtain ⟨ht, hs, -⟩ := h.run hr
  obtain ⟨ho, -, hlk, hown⟩ := h.held t ht o (by rw [hl]; simp)
  have hm := (h.objs o ho).1
  have hmq := mayS_q hm
  have hnw : ∀ o', o' < m → (t : Int) ∉ (w.obj o').q.flatten := fun o' ho' => h.waits (t := t) (by rw [hs]; decide) ho'
  have hn8 := h.n8
  have hg : (w.obj o).q.getD e [] = (w.obj o).q[e] := by simp [he]
  have hmq1 : mayQ ((w.obj o).q.set e ((w.obj o).q.getD e [] ++ [(t : Int)])) = true := by
    rw [hg]; exact mayQ_put hmq he (by omega) (hnw o ho)
  refine ⟨?_, ?_⟩
  · rw [waitL, if_neg (by simp [hm]), if_neg (fun h => h (by omega)), Int.toNat_natCast, finishL, if_neg (by simp [hlk])]
    have : (waitS (w.obj o) e).q = (w.obj o).q.set e ((w.obj o).q.getD e [] ++ [(t : Int)]) := by
      show (putL (w.obj o).q e (w.obj o).owner).1 = _
      rw [hown, putL_eq hmq (by omega), if_neg (by omega), if_neg (hnw o ho)]
    rw [this]
  · have k := h.drop (t := t) (by simp)
    have hkeep : ∀ v, v ≠ t → set1 w.state t 2 v = w.state v := fun v hv => set1_ne _ _ hv
    have hst2 : set1 w.state t 2 t = 2 := set1_same _ _ _
    obtain ⟨w', hw'⟩ : ∃ w' : LW, w' = { w.drop t with state := set1 w.state t 2 } := ⟨_, rfl⟩
    have hdd : w'.drop t = w' := by
      rw [hw']
      unfold LW.drop
      simp only [List.filter_filter, Bool.and_self]
    have k' : LInv n m us [t] w' := by
      rw [hw']
      exact { k with
        hst := fun v hv hn hh => by
          show set1 w.state t 2 v = 1
          rw [hkeep v (by simpa using hn)]; exact k.hst v hv hn hh
        rdy := fun p hp v => by
          refine (k.rdy p hp v).trans ⟨fun ⟨a, b, c, d⟩ => ⟨a, b, ?_, d⟩, fun ⟨a, b, c, d⟩ => ⟨a, b, ?_, d⟩⟩
          · show set1 w.state t 2 v = 1
            rw [hkeep v (by simpa using b)]; exact c
          · have c' : set1 w.state t 2 v = 1 := c
            rw [hkeep v (by simpa using b)] at c'; exact c'
        wait := fun o' ho' x hx => by
          obtain ⟨v, rfl, a, b, c⟩ := k.wait o' ho' x hx
          refine ⟨v, rfl, a, ?_, c⟩
          show set1 w.state t 2 v = 2
          by_cases e : v = t
          · rw [e]; exact hst2
          · rw [hkeep v e]; exact b }
    have hob : ∀ o', (w'.obj o') = w.obj o' := fun o' => by rw [hw']; rfl
    have res := LInv.over (t := t) (o := o) (l := []) (w := w') (q := (w.obj o).q.set e ((w.obj o).q.getD e [] ++ [(t : Int)])) (b := b) (by rw [hdd]; exact k') ht (.inr ⟨by rw [hw']; exact hst2, rfl, hdd⟩) (by rw [hw']; exact hl) hmq1 (by rw [hob]; simp) (fun x hx => by
      rw [hg, mem_flat_set _ _ _ he] at hx
      rw [hob]
      exact hx.imp id fun hx => ⟨List.mem_singleton.1 hx, by rw [hw']; exact hst2, fun o' ho' => by rw [hob]; exact hnw o' ho'⟩) (fun e' he' => by
      have e0 : t ∈ [t] := by simp
      have : e' = e := mayQ_apart hmq1 he' (by rw [getD_set _ _ _ he, if_pos rfl]; simp)
      rw [this]; exact hb)
    have eq : ({ w.drop t with state := set1 w.state t 2, model := set1 w.model o ((w.obj o).q.set e ((w.obj o).q.getD e [] ++ [(t : Int)])) } : LW).over t o (releaseL ((w.obj o).q.set e ((w.obj o).q.getD e [] ++ [(t : Int)])) b).1 (releaseL ((w.obj o).q.set e ((w.obj o).q.getD e [] ++ [(t : Int)])) b).2 = w'.over t o (releaseL ((w.obj o).q.set e ((w.obj o).q.getD e [] ++ [(t : Int)])) b).1 (releaseL ((w.obj o).q.set e ((w.obj o).q.getD e [] ++ [(t : Int)])) b).2 := by
      rw [hw']
      unfold LW.over
      simp only [if_neg (show ¬ set1 w.state t 2 t = 1 by rw [hst2]; decide), set1_set1, LW.drop]
    rw [eq]; exact res
end
end Go.Dl

-- LockFree: a world in memory; active, running.
namespace Go.Dl
open Go Go.Proofs
set_option maxRecDepth 100000
theorem OwnJ.lend2 {H H' : DHeap} {e : TypeId} {size n : Nat} {cs : List DVal} {v : DVal} (h : OwnJ H e size n cs v H') (d : DVal) : ∀ w vs, SimHeap w H' → RelL w H' [d, v] vs → RelL w h0 [d, .vslice cs n] vs := by
  intro w vs hw hv
  simp only [RelL] at hv ⊢
  obtain ⟨y, ys, rfl, h1, z, zs, rfl, h2, rfl⟩ := hv
  obtain ⟨_, _, k3⟩ := h.ghost w hw
  exact ⟨y, _, rfl, Rel.lasts (lasts_h0 H' w) _ _ h1, z, _, rfl, Rel.lasts (lasts_h0 H w) _ _ (k3 z h2), rfl⟩
def cL (l : List Nat) : List Int := l.map Int.ofNat
theorem cL_len (l : List Nat) : (cL l).length = l.length := List.length_map _
/-- A block below the rows is written. -/
theorem OwnV.set {e : TypeId} {H H1 : DHeap} {l : List Int} {v : DVal} (h : OwnV e H l v H1) {r : Nat} (hr : H r ≠ none) (o : Option DObj) : OwnV e (upd H r o) l v (upd H1 r o) := by
  rcases h with ⟨rfl, rfl, rfl⟩ | ⟨r', pre, lo, rest, hr', rfl, hlo, rfl⟩
  · exact .inl ⟨rfl, rfl, rfl⟩
  · have hne : r' ≠ r := fun e => hr (e ▸ hr')
    exact .inr ⟨r', pre, lo, rest, by rw [upd_ne _ _ _ _ hne]; exact hr', rfl, hlo, upd_swap hne.symm _ _ _⟩
theorem OwnRows.set {e : TypeId} {H : DHeap} : ∀ {q : List (List Int)} {vs : List DVal} {H1 : DHeap}, OwnRows e H q vs H1 → ∀ {r : Nat}, H r ≠ none → ∀ (o : Option DObj), OwnRows e (upd H r o) q vs (upd H1 r o)
  | [], vs, H1, h, r, hr, o => by
    obtain ⟨rfl, rfl⟩ := h
    exact ⟨rfl, rfl⟩
  | l :: q, vs, H1, h, r, hr, o => by
    obtain ⟨v, vs', H2, rfl, h1, h2⟩ := h
    refine ⟨v, vs', _, rfl, h1.set hr o, h2.set (fun k => hr ?_) o⟩
    cases hb : H r with
    | none => rfl
    | some x => rw [h1.sub _ _ hb] at k; cases k
theorem OwnV.vlen {e : TypeId} {H H1 : DHeap} {l : List Int} {v : DVal} (h : OwnV e H l v H1) (t : TypeId) (dst : Option Nat) (K : DK) (st : DS) : dLen dst (some (.slice t)) v K st = dput dst (dI l.length) K st := by
  rcases h with ⟨rfl, rfl, rfl⟩ | ⟨r', pre, lo, rest, hr', rfl, hlo, rfl⟩
  · simp only [dLen, List.length_nil]; rfl
  · simp only [dLen]
theorem rangeMap_set0 {α β : Type} (f : Nat → α) (g : α → β) (n i : Nat) (x : α) (h : i < n) : ((List.range n).map fun p => g (f p)).set i (g x) = (List.range n).map fun p => g (set1 f i x p) := by
  apply List.ext_getElem?
  intro j
  rw [List.getElem?_set]
  simp only [List.length_map, List.length_range, List.getElem?_map]
  by_cases e : i = j
  · subst e; rw [if_pos rfl, if_pos h, List.getElem?_range h]; simp [set1_same]
  · rw [if_neg e]
    by_cases hj : j < n
    · rw [List.getElem?_range hj]; simp [set1_ne _ _ (Ne.symm e)]
    · rw [List.getElem?_eq_none (by simp; omega)]; rfl
def wC (vb vh vs vc vo vm : DVal) (vr : List DVal) : List DVal := vb :: vh :: vs :: (vr ++ [vc, vo, vm])
section
variable {vb vh vs vc vo vm : DVal} {vr : List DVal}
theorem wC_len (h : vr.length = 32) : (wC vb vh vs vc vo vm vr).length = 38 := by simp [wC, h]
theorem wC_0 : (wC vb vh vs vc vo vm vr)[0]? = some vb := rfl
theorem wC_1 : (wC vb vh vs vc vo vm vr)[1]? = some vh := rfl
theorem wC_2 : (wC vb vh vs vc vo vm vr)[2]? = some vs := rfl
theorem wC_r {p : Nat} (h : vr.length = 32) (hp : p < 32) : (wC vb vh vs vc vo vm vr)[3 + p]? = vr[p]? := by
  rw [show 3 + p = p + 1 + 1 + 1 by omega]
  simp only [wC, List.getElem?_cons_succ]
  exact List.getElem?_append_left (by omega)
theorem wC_35 (h : vr.length = 32) : (wC vb vh vs vc vo vm vr)[35]? = some vc := by
  simp only [wC, List.getElem?_cons_succ]; rw [List.getElem?_append_right (by omega), h]; rfl
theorem wC_36 (h : vr.length = 32) : (wC vb vh vs vc vo vm vr)[36]? = some vo := by
  simp only [wC, List.getElem?_cons_succ]; rw [List.getElem?_append_right (by omega), h]; rfl
theorem wC_37 (h : vr.length = 32) : (wC vb vh vs vc vo vm vr)[37]? = some vm := by
  simp only [wC, List.getElem?_cons_succ]; rw [List.getElem?_append_right (by omega), h]; rfl
theorem wC_put {p : Nat} {x : DVal} (h : vr.length = 32) (hp : p < 32) : splice (wC vb vh vs vc vo vm vr) (3 + p) [x] = wC vb vh vs vc vo vm (vr.set p x) := by
  rw [splice_setD _ _ _ (by rw [wC_len h]; omega), show 3 + p = p + 1 + 1 + 1 by omega]
  simp only [wC, List.set_cons_succ]
  rw [List.set_append_left _ _ (by omega)]
end
def dPc (s : PS) : List DVal := [.bool s.locked, dI s.owner, dIss s.q]
/-- A world in memory: its rows over B. -/
structure WM (H : DHeap) (n m r rh rs ro rm : Nat) (rr : Nat → Nat) (vr hv : List DVal) (w : LW) (B X : DHeap) : Prop where
  rows : OwnRows 3 B (((List.range 32).map fun p => cL (w.ready p)) ++ ((List.range n).map fun t => cL (w.held t))) (vr ++ hv) X
  lr : vr.length = 32
  lh : hv.length = n
  c : B r = some (.cells (wC (.vslice ((List.range n).map fun t => dI (w.base t)) n) (.oslice 1 rh 0 n n) (.oslice 1 rs 0 n n) (.vslice ((List.range m).map fun o => dI (w.ceil o)) m) (.oslice 3 ro 0 m m) (.oslice 1 rm 0 m m) vr) 32)
  h : B rh = some (.cells hv 27)
  s : B rs = some (.cells ((List.range n).map fun t => dI (w.state t)) 3)
  o : B ro = some (.cells ((List.range m).flatMap fun o => dPc (w.obj o)) 36)
  mo : B rm = some (.cells ((List.range m).map fun o => .oslice 1 (rr o) 0 (w.model o).length (w.model o).length) 26)
  mr : ∀ o, o < m → B (rr o) = some (.cells ((w.model o).map dIs) 27)
  nd : (r :: rh :: rs :: ro :: rm :: (List.range m).map rr).Nodup
  nw : ∀ b ∈ r :: rh :: rs :: ro :: rm :: (List.range m).map rr, H b = none
  sub : Sub H B
def WAt (H : DHeap) (n m r : Nat) (w : LW) (X : DHeap) : Prop := ∃ rh rs ro rm rr vr hv B, WM H n m r rh rs ro rm rr vr hv w B X
section
variable {H : DHeap} {n m r rh rs ro rm : Nat} {rr : Nat → Nat} {vr hv : List DVal} {w : LW} {B X : DHeap}
theorem focusB {e : TypeId} {q : List (List Int)} {vs : List DVal} (h : OwnRows e B q vs X) (i : Nat) (hi : i < q.length) : ∃ v H1, vs[i]? = some v ∧ OwnV e H1 q[i] v X ∧ Sub B H1 ∧
    ∀ l' v' H2, OwnV e H1 l' v' H2 → OwnRows e B (q.set i l') (vs.set i v') H2 := by
  obtain ⟨v, H1, h1, h2, h3⟩ := h.focus i hi
  exact ⟨v, H1, h1, h2, (h3 [] .nilSlice H1 (.inl ⟨rfl, rfl, rfl⟩)).sub, h3⟩
/-- The row of what a task holds, or of a ready queue. -/
theorem WM.heldRow (k : WM H n m r rh rs ro rm rr vr hv w B X) {t : Nat} (ht : t < n) : ∃ v H1, hv[t]? = some v ∧ OwnV 3 H1 (cL (w.held t)) v X ∧ Sub B H1 ∧
    ∀ l' v' H2, OwnV 3 H1 (cL l') v' H2 → OwnRows 3 B (((List.range 32).map fun p => cL (w.ready p)) ++ ((List.range n).map fun x => cL (set1 w.held t l' x))) (vr ++ hv.set t v') H2 := by
  have hlr := k.lr
  obtain ⟨v, H1, h1, h2, h3, h4⟩ := focusB k.rows (32 + t) (by simp; omega)
  rw [List.getElem?_append_right (by omega), hlr, Nat.add_sub_cancel_left] at h1
  have hq : (((List.range 32).map fun p => cL (w.ready p)) ++ ((List.range n).map fun t => cL (w.held t)))[32 + t]'(by simp; omega) = cL (w.held t) := by
    rw [List.getElem_append_right (by simp)]; simp
  rw [hq] at h2
  refine ⟨v, H1, h1, h2, h3, fun l' v' H2 hv' => ?_⟩
  have := h4 _ _ _ hv'
  rw [List.set_append_right (s := vr) _ _ (by omega), hlr, Nat.add_sub_cancel_left, List.set_append_right _ _ (by simp)] at this
  simp only [List.length_map, List.length_range, Nat.add_sub_cancel_left] at this
  rwa [rangeMap_set0 w.held cL n t l' ht] at this
theorem WM.readyRow (k : WM H n m r rh rs ro rm rr vr hv w B X) {p : Nat} (hp : p < 32) : ∃ v H1, vr[p]? = some v ∧ OwnV 3 H1 (cL (w.ready p)) v X ∧ Sub B H1 ∧
    ∀ l' v' H2, OwnV 3 H1 (cL l') v' H2 → OwnRows 3 B (((List.range 32).map fun x => cL (set1 w.ready p l' x)) ++ ((List.range n).map fun x => cL (w.held x))) (vr.set p v' ++ hv) H2 := by
  have hlr := k.lr
  obtain ⟨v, H1, h1, h2, h3, h4⟩ := focusB k.rows p (by simp; omega)
  rw [List.getElem?_append_left (by omega)] at h1
  have hq : (((List.range 32).map fun p => cL (w.ready p)) ++ ((List.range n).map fun t => cL (w.held t)))[p]'(by simp; omega) = cL (w.ready p) := by
    rw [List.getElem_append_left (by simpa using hp)]; simp
  rw [hq] at h2
  refine ⟨v, H1, h1, h2, h3, fun l' v' H2 hv' => ?_⟩
  have := h4 _ _ _ hv'
  rw [List.set_append_left (s := vr) _ _ (by omega), List.set_append_left _ _ (by simpa using hp)] at this
  rwa [rangeMap_set0 w.ready cL 32 p l' hp] at this
end
def dIL (l : List Int) : List DVal := l.map dI
theorem row_get {pre rest : List DVal} {l : List Int} {k : Nat} (hk : k < l.length) : (pre ++ (l.map dI ++ rest))[pre.length + k]? = some (dI l[k]) := by
  rw [List.getElem?_append_right (by omega), Nat.add_sub_cancel_left, List.getElem?_append_left (by simpa using hk), List.getElem?_map, List.getElem?_eq_getElem hk]; rfl
/-- A row's element. -/
theorem OwnV.el {e : TypeId} {H1 X : DHeap} {l : List Int} {v : DVal} (h : OwnV e H1 l v X) (h0 : l ≠ []) : ∃ q off lo cs, v = .oslice 1 q off l.length lo ∧ X q = some (.cells cs e) ∧ off + l.length ≤ cs.length ∧ ∀ k (hk : k < l.length), cs[off + k]? = some (dI l[k]) := by
  rcases h with ⟨rfl, _, _⟩ | ⟨q, pre, lo, rest, hq, rfl, hlo, rfl⟩
  · exact absurd rfl h0
  · exact ⟨q, pre.length, lo, _, rfl, upd_same _ _ _, by simp, fun k hk => row_get hk⟩
theorem dI_map_get (f : Nat → Int) {n t : Nat} (h : t < n) : ((List.range n).map fun x => dI (f x))[t]? = some (dI (f t)) := by
  rw [List.getElem?_map, List.getElem?_range h]; rfl
theorem dIs_range (f : Nat → Int) {n t : Nat} (h : t < n) : (((List.range n).map f).map dI)[t]? = some (dI (f t)) := by
  rw [List.getElem?_map, List.getElem?_map, List.getElem?_range h]; rfl
section
variable {G : Nat → DVal} {H : DHeap} {n m r : Nat} {w : LW} {X : DHeap}
theorem active_w (hn : n ≤ 8) (hm : m ≤ 4) {t : Nat} (ht : t < n) (ho : ∀ o ∈ w.held t, o < m) (hl : (w.held t).length ≤ 100) (k : WAt H n m r w X) : DCalls Try.prog G 10 [.optr r 0, dI t] X (DRet (dI (w.act t)) X) := by
  obtain ⟨rh, rs, ro, rm, rr, vr, hv, B, k⟩ := k
  obtain ⟨v, H1, hvt, hvv, -, -⟩ := k.heldRow ht
  have hsX := k.rows.sub
  have cX := hsX _ _ k.c
  have hX := hsX _ _ k.h
  have sX := hsX _ _ k.s
  have oX := hsX _ _ k.o
  have moX := hsX _ _ k.mo
  have hlr := k.lr
  have hlh := k.lh
  have hlen := wC_len (vb := .vslice ((List.range n).map fun t => dI (w.base t)) n) (vh := .oslice 1 rh 0 n n) (vs := .oslice 1 rs 0 n n) (vc := .vslice ((List.range m).map fun o => dI (w.ceil o)) m) (vo := .oslice 3 ro 0 m m) (vm := .oslice 1 rm 0 m m) hlr
  have h35 := wC_35 (vb := .vslice ((List.range n).map fun t => dI (w.base t)) n) (vh := .oslice 1 rh 0 n n) (vs := .oslice 1 rs 0 n n) (vc := .vslice ((List.range m).map fun o => dI (w.ceil o)) m) (vo := .oslice 3 ro 0 m m) (vm := .oslice 1 rm 0 m m) hlr
  have h36 := wC_36 (vb := .vslice ((List.range n).map fun t => dI (w.base t)) n) (vh := .oslice 1 rh 0 n n) (vs := .oslice 1 rs 0 n n) (vc := .vslice ((List.range m).map fun o => dI (w.ceil o)) m) (vo := .oslice 3 ro 0 m m) (vm := .oslice 1 rm 0 m m) hlr
  have h37 := wC_37 (vb := .vslice ((List.range n).map fun t => dI (w.base t)) n) (vh := .oslice 1 rh 0 n n) (vs := .oslice 1 rs 0 n n) (vc := .vslice ((List.range m).map fun o => dI (w.ceil o)) m) (vo := .oslice 3 ro 0 m m) (vm := .oslice 1 rm 0 m m) hlr
  refine dcalls_intro Try.func10 Try.call10 rfl (by kernel_rfl) ?_
  have vl := hvv.vlen
  have hcl := cL_len (w.held t)
  have hb1 := dI_map_get w.base ht
  simp (disch := omega) only [go_sem, ↓reduceIte, cX, hlen, hX, wC_1, wC_0, h35, hlh, hvt, vl, hcl]
  obtain ⟨I, hI⟩ : ∃ I : Nat → (Nat → DVal) → DHeap → Prop, ∀ k env heap, I k env heap ↔ (env 0 = .optr r 0 ∧ env 1 = dI t ∧ env 14 = v ∧ env 15 = dI (w.held t).length ∧ env 16 = dI k ∧ k ≤ (w.held t).length ∧ OwnJ X 3 1 k (dIL (((w.held t).take k).map w.ceil)) (env 5) heap) := ⟨_, fun _ _ _ => Iff.rfl⟩
  refine DLoop.run I (fun k => (w.held t).length - k) 0 ((hI _ _ _).2 ?_) ?_
  · simp (disch := omega) only [go_sem, ↓reduceIte]
    (repeat' apply And.intro) <;> (try first | rfl | assumption | omega)
    exact OwnJ.nil _ _ (Sub.refl X)
  · intro j env heap hj
    obtain ⟨e0, e1, e14, e15, e16, hj2, hv5⟩ := (hI _ _ _).1 hj
    obtain ⟨v5, hv5e⟩ : ∃ v5, v5 = env 5 := ⟨_, rfl⟩
    rw [← hv5e] at hv5
    have cK := hv5.sub _ _ cX
    by_cases hlt : j < (w.held t).length
    · have hlt' : (j : Int) < ((w.held t).length : Int) := by omega
      obtain ⟨q, off, lo, cs, rfl, hq, hcs, hel⟩ := hvv.el (by intro h0; rw [h0] at hcl; simp at hcl; omega)
      have hqK := hv5.sub _ _ hq
      have hg := hel j (by omega)
      have hcj : (cL (w.held t))[j]'(by omega) = ((w.held t)[j] : Int) := by simp [cL]
      rw [hcj] at hg
      rw [hcl] at *
      have hom := ho _ (List.getElem_mem hlt)
      have hcg := dI_map_get w.ceil hom
      have hsn : ((w.held t).take (j + 1)).map w.ceil = ((w.held t).take j).map w.ceil ++ [w.ceil (w.held t)[j]] := by
        rw [List.take_add_one, List.getElem?_eq_getElem hlt, Option.toList_some, List.map_append]; rfl
      have hwj : IntKind.i64.wrap ((j : Int) + 1) = ((j + 1 : Nat) : Int) := by rw [IntKind.wrap_i64]; omega
      obtain ⟨x, hx⟩ : ∃ x, x = (w.held t)[j] := ⟨_, rfl⟩
      rw [← hx] at hg hom hcg hsn
      simp (disch := omega) only [go_sem, ↓reduceIte, e0, e1, e14, e15, e16, ← hv5e, hlt', cK, hlen, hqK, hcs, hg, h35, hcg, Int.toNat_natCast, List.length_range]
      intro rn hrn; dsimp only at hrn
      have hv6 := hv5.new hrn (some (.cells [dI (w.ceil x)] 3))
      simp (disch := omega) only [go_sem, ↓reduceIte, e0, e1, e14, e15, e16, ← hv5e, hlt', cK, hlen, hqK, hg, h35, hcg, List.length_range]
      refine OwnJ.append (m := 1) hv6 rfl (by omega) fun v7 X7 hv7 => ?_
      simp (disch := omega) only [go_sem, ↓reduceIte, e0, e1, e14, e15, e16]
      refine ⟨j + 1, _, GhostS.refl _, (hI _ _ _).2 ?_, by omega⟩
      simp (disch := omega) only [go_sem, ↓reduceIte, e0, e1, e14, e15, e16, hwj]
      (repeat' apply And.intro) <;> (try first | rfl | assumption | omega)
      rw [hsn, dIL, List.map_append]; exact hv7
    · have hje : j = (w.held t).length := by omega
      subst hje
      have hlt' : ¬ ((w.held t).length : Int) < ((w.held t).length : Int) := by omega
      rw [List.take_length] at hv5
      simp (disch := omega) only [go_sem, ↓reduceIte, e0, e1, e14, e15, e16, ← hv5e, hlt', cK, hlen, wC_0, hb1, List.length_range, Int.toNat_natCast]
      have ac : DCalls Try.prog G 20 [dI (w.base t), .vslice (dIL ((w.held t).map w.ceil)) (w.held t).length] h0 (DRet (dI (w.act t)) h0) := by
        have := active_spec G (w.base t) ((w.held t).map w.ceil) h0 (by simp; omega)
        rw [dIs, List.length_map] at this; exact this
      refine (DCalls.lent ac (hv5.lend2 _) rfl).mono ?_
      rintro _ K2 ⟨rfl, rfl⟩
      simp (disch := omega) only [go_sem, ↓reduceIte, e0, e1]
      exact DFin.sub hv5.sub (DFin.refl ⟨rfl, rfl⟩)
end
end Go.Dl

-- LockFree: slices.DeleteFunc on a row; running, drop.
namespace Go.Dl
open Go Go.Proofs
set_option maxRecDepth 100000
theorem indexFunc_v (G : Nat → DVal) (l : List Int) (k : Nat) (cap : List DVal) (p : Int → Bool) (H : DHeap) (hl : l.length ≤ 1099511627776) (r off lo : Nat) (cs : List DVal) (hr : H r = some (.cells cs 3)) (hc : off + l.length ≤ cs.length) (he : ∀ k (hk : k < l.length), cs[off + k]? = some (dI l[k])) (hf : ∀ x ∈ l, DCalls Try.prog G k (dI x :: cap) H (DRet (.bool (p x)) H)) :
    DCalls Try.prog G 36 [.oslice 1 r off l.length lo, .func (.func k) [] cap] H (DRet (dI (idxF l p)) H) := by
  refine dcalls_intro Try.func36 Try.call36 rfl (by kernel_rfl) ?_
  simp (disch := omega) only [go_sem, ↓reduceIte]
  refine DLoop.run (fun (i : Nat) env heap => heap = H ∧ env 0 = .oslice 1 r off l.length lo ∧ env 1 = .func (.func k) [] cap ∧ env 7 = dI l.length ∧ env 8 = dI i ∧ i ≤ l.length ∧ ∀ x ∈ l.take i, p x = false) (fun i => l.length - i) 0 ?_ ?_
  · simp (disch := omega) only [go_sem, ↓reduceIte]
    simp
  · rintro i env heap ⟨rfl, h0, h1, h7, h8, hi, hn⟩
    by_cases hlt : i < l.length
    · have hg := he i hlt
      simp (disch := omega) only [go_sem, ↓reduceIte, h0, h1, h7, h8, hr, hg]
      refine (hf _ (List.getElem_mem hlt)).mono ?_
      rintro e H1 ⟨rfl, rfl⟩
      simp (disch := omega) only [go_sem, ↓reduceIte]
      cases hx : p l[i] with
      | true =>
        simp (disch := omega) only [go_sem, ↓reduceIte, h0, h1, h7, h8, hr]
        refine DFin.refl ⟨?_, rfl⟩
        have : l.findIdx? p = some i := by
          rw [List.findIdx?_eq_some_iff_getElem]
          refine ⟨hlt, hx, fun j hj => ?_⟩
          have := hn (l[j]) (List.mem_take_iff_getElem.2 ⟨j, by omega, rfl⟩)
          simp [this]
        rw [idxF, this]
      | false =>
        simp (disch := omega) only [go_sem, ↓reduceIte, h0, h1, h7, h8, hr]
        refine ⟨i + 1, _, GhostS.refl _, ?_, by omega⟩
        simp (disch := omega) only [go_sem, ↓reduceIte, h0, h1, h7, h8, hr]
        (repeat' apply And.intro) <;> (try first | rfl | assumption | omega)
        rw [List.take_add_one, List.getElem?_eq_getElem hlt]
        intro x hx'
        rcases List.mem_append.1 hx' with h | h
        · exact hn x h
        · simp at h; subst h; exact hx
    · simp (disch := omega) only [go_sem, ↓reduceIte, h0, h1, h7, h8, hr]
      refine DFin.refl ⟨?_, rfl⟩
      have hi : i = l.length := by omega
      subst hi
      rw [List.take_length] at hn
      have : l.findIdx? p = none := by
        rw [List.findIdx?_eq_none_iff]
        intro x hx; simpa using hn x hx
      rw [idxF, this]
/-- One round: what is kept moves down. -/
theorem keep_stepV (pre : List DVal) (kept mid : List Int) (x : Int) (rest : List Int) (post : List DVal) : ∃ mid', mid'.length = mid.length ∧
    splice (pre ++ ((kept ++ mid ++ x :: rest).map dI ++ post)) (pre.length + kept.length) [dI x] = pre ++ (((kept ++ [x]) ++ mid' ++ rest).map dI ++ post) := by
  obtain ⟨mid', h1, h2⟩ := keep_step kept mid x rest
  refine ⟨mid', h1, ?_⟩
  have hs := splice_setD (pre ++ ((kept ++ mid ++ x :: rest).map dI ++ post)) (pre.length + kept.length) (dI x) (by simp; omega)
  rw [hs, List.set_append_right _ _ (by omega), Nat.add_sub_cancel_left, List.set_append_left _ _ (by simp; omega), ← splice_setD _ _ _ (by simp; omega), h2]
theorem splice_mid (a b c d : List DVal) (h : d.length = b.length) : splice (a ++ (b ++ c)) a.length d = a ++ (d ++ c) := by
  unfold splice
  rw [List.take_left, h, ← List.drop_drop, List.drop_left, List.drop_left]
  simp
def KeptV (H : DHeap) (r : Nat) (pre post : List DVal) (l : List Int) (p : Int → Bool) (j : Nat) (heap : DHeap) : Prop :=
  ∃ mid : List Int, ((l.take j).filter fun x => !p x).length + mid.length = j ∧ heap = upd H r (some (.cells (pre ++ ((((l.take j).filter fun x => !p x) ++ mid ++ l.drop j).map dI ++ post)) 3))
theorem deleteFunc_v (G : Nat → DVal) (l : List Int) (k : Nat) (cap : List DVal) (p : Int → Bool) (v : DVal) (H X : DHeap) (hv : OwnV 3 H l v X) (hl : l.length ≤ 1099511627776)
    (hf : ∀ x ∈ l, ∀ r cs, H r = none → DCalls Try.prog G k (dI x :: cap) (upd H r (some (.cells cs 3))) (DRet (.bool (p x)) (upd H r (some (.cells cs 3))))) :
    DCalls Try.prog G 24 [v, .func (.func k) [] cap] X fun x H' => ∃ v, x = .ret v ∧ OwnV 3 H (l.filter fun x => !p x) v H' := by
  rcases hv with ⟨rfl, rfl, rfl⟩ | ⟨r, pre, lo, post, hr, rfl, hlo, rfl⟩
  · refine dcalls_intro Try.func24 Try.call24 rfl (by kernel_rfl) ?_
    simp (disch := omega) only [go_sem, ↓reduceIte]
    have hi : DCalls Try.prog G 36 [.nilSlice, .func (.func k) [] cap] X (DRet (dI (-1)) X) := by
      refine dcalls_intro Try.func36 Try.call36 rfl (by kernel_rfl) ?_
      simp (disch := omega) only [go_sem, ↓reduceIte]
      refine DLoop.run (fun (i : Nat) env heap => heap = X ∧ env 0 = .nilSlice ∧ env 7 = dI 0 ∧ env 8 = dI 0) (fun _ => 0) 0 ?_ ?_
      · simp (disch := omega) only [go_sem, ↓reduceIte]
        try simp
      · rintro i env heap ⟨rfl, h0, h7, h8⟩
        simp (disch := omega) only [go_sem, ↓reduceIte, h0, h7, h8]
        exact DFin.refl ⟨rfl, rfl⟩
    refine hi.mono ?_
    rintro _ H1 ⟨rfl, rfl⟩
    simp (disch := omega) only [go_sem, ↓reduceIte]
    exact DFin.refl ⟨_, rfl, .inl ⟨rfl, rfl, rfl⟩⟩
  refine dcalls_intro Try.func24 Try.call24 rfl (by kernel_rfl) ?_
  simp (disch := omega) only [go_sem, ↓reduceIte]
  refine (indexFunc_v G l k cap p _ hl r pre.length lo _ (upd_same _ _ _) (by simp) (fun j hj => row_get hj) fun x hx => hf x hx _ _ hr).mono ?_
  rintro _ H1 ⟨rfl, rfl⟩
  cases hfi : l.findIdx? p with
  | none =>
    have hk : idxF l p = -1 := by rw [idxF, hfi]
    rw [hk]
    simp (disch := omega) only [go_sem, ↓reduceIte]
    have hall : l.filter (fun x => !p x) = l := by
      rw [List.filter_eq_self]
      intro x hx
      have := List.findIdx?_eq_none_iff.1 hfi x hx
      simp [this]
    refine DFin.refl ⟨_, rfl, ?_⟩
    rw [hall]
    exact .inr ⟨r, pre, lo, post, hr, rfl, hlo, rfl⟩
  | some i =>
    have hk : idxF l p = (i : Int) := by rw [idxF, hfi]
    have hi : i < l.length := by
      have := List.findIdx?_eq_some_iff_getElem.1 hfi
      exact this.1
    rw [hk]
    have hne : ¬ ((i : Int) = -1) := by omega
    simp (disch := omega) only [go_sem, ↓reduceIte, hne]
    have htake : ((l.take (i + 1)).filter fun x => !p x) = l.take i := by
      obtain ⟨_, h1, h2⟩ := List.findIdx?_eq_some_iff_getElem.1 hfi
      rw [List.take_add_one, List.getElem?_eq_getElem hi, List.filter_append]
      simp only [Option.toList, List.filter_cons, h1, Bool.not_true, List.filter_nil, if_neg Bool.false_ne_true, List.append_nil]
      rw [List.filter_eq_self]
      intro x hx
      obtain ⟨j, hj, rfl⟩ := List.mem_take_iff_getElem.1 hx
      simpa using h2 j (by omega)
    obtain ⟨I, hI⟩ : ∃ I : Nat → (Nat → DVal) → DHeap → Prop, ∀ j env heap, I j env heap ↔ (j ≤ l.length ∧ env 0 = .oslice 1 r pre.length l.length lo ∧ env 1 = .func (.func k) [] cap ∧ env 5 = dI (l.take j |>.filter fun x => !p x).length ∧ env 6 = dI j ∧ KeptV H r pre post l p j heap) := ⟨_, fun _ _ _ => Iff.rfl⟩
    refine DLoop.run I (fun j => l.length - j) (i + 1) ((hI _ _ _).2 ?_) ?_
    · simp (disch := omega) only [go_sem, ↓reduceIte]
      (repeat' apply And.intro) <;> (try first | rfl | assumption | omega)
      · rw [htake]
        simp [dI]
        omega
      · refine ⟨[l[i]], by rw [htake]; simp; omega, ?_⟩
        rw [htake]
        simp
    · intro j env heap hj
      obtain ⟨hjl, g0, g1, g5, g6, mid, hmid, rfl⟩ := (hI _ _ _).1 hj
      have hkl : ((l.take j).filter fun x => !p x).length ≤ j := by omega
      by_cases hlt : j < l.length
      · have hxj : (pre ++ ((((l.take j).filter fun x => !p x) ++ mid ++ l.drop j).map dI ++ post))[pre.length + j]? = some (dI l[j]) := by
          rw [List.getElem?_append_right (by omega), Nat.add_sub_cancel_left, List.getElem?_append_left (by simp; omega), List.getElem?_map, List.getElem?_append_right (by rw [List.length_append]; omega), List.length_append, hmid, Nat.sub_self, List.getElem?_drop, Nat.add_zero, List.getElem?_eq_getElem hlt]
          rfl
        simp (disch := omega) only [go_sem, ↓reduceIte, g0, g1, g5, g6, hxj]
        refine (hf l[j] (List.getElem_mem hlt) _ _ hr).mono ?_
        rintro _ H1 ⟨rfl, rfl⟩
        cases hpx : p l[j] with
        | true =>
          simp (disch := omega) only [go_sem, ↓reduceIte, g0, g1, g5, g6, hpx]
          have ht : ((l.take (j + 1)).filter fun x => !p x) = (l.take j).filter fun x => !p x := by
            rw [List.take_add_one, List.getElem?_eq_getElem hlt, List.filter_append]
            simp [hpx]
          refine ⟨j + 1, _, GhostS.refl _, (hI _ _ _).2 ?_, by omega⟩
          simp (disch := omega) only [go_sem, ↓reduceIte, g0, g1, g5, g6, ht]
          (repeat' apply And.intro) <;> (try first | rfl | assumption | omega)
          refine ⟨mid ++ [l[j]], by rw [ht, List.length_append, ← Nat.add_assoc, hmid]; rfl, ?_⟩
          rw [ht, List.drop_eq_getElem_cons hlt]
          simp
        | false =>
          simp (disch := omega) only [go_sem, ↓reduceIte, g0, g1, g5, g6, hpx]
          have ht : ((l.take (j + 1)).filter fun x => !p x) = ((l.take j).filter fun x => !p x) ++ [l[j]] := by
            rw [List.take_add_one, List.getElem?_eq_getElem hlt, List.filter_append]
            simp [hpx]
          refine ⟨by simp; omega, ?_⟩
          refine ⟨j + 1, _, GhostS.refl _, (hI _ _ _).2 ?_, by omega⟩
          simp (disch := omega) only [go_sem, ↓reduceIte, g0, g1, g5, g6, ht]
          (repeat' apply And.intro) <;> (try first | rfl | assumption | omega)
          · simp [dI]
          · obtain ⟨mid', hm', hs⟩ := keep_stepV pre ((l.take j).filter fun x => !p x) mid l[j] (l.drop (j + 1)) post
            refine ⟨mid', by rw [ht, List.length_append, hm']; simp; omega, ?_⟩
            rw [ht, List.drop_eq_getElem_cons hlt]
            exact congrArg (fun c => upd H r (some (.cells c 3))) hs
      · simp (disch := omega) only [go_sem, ↓reduceIte, g0, g1, g5, g6]
        have hjl' : j = l.length := by omega
        subst hjl'
        rw [List.take_length] at hmid ⊢
        have hle : (l.filter fun x => !p x).length ≤ l.length := List.length_filter_le _ _
        have hml : mid.length = l.length - (l.filter fun x => !p x).length := by omega
        refine ⟨by simp; omega, DFin.refl ⟨_, rfl, .inr ⟨r, pre, lo, List.replicate (l.length - (l.filter fun x => !p x).length) (dI 0) ++ post, hr, rfl, by simp; omega, ?_⟩⟩⟩
        have e1 : pre ++ (((l.filter fun x => !p x) ++ mid ++ l.drop l.length).map dI ++ post) = (pre ++ (l.filter fun x => !p x).map dI) ++ (mid.map dI ++ post) := by simp
        have e2 : pre.length + (l.filter fun x => !p x).length = (pre ++ (l.filter fun x => !p x).map dI).length := by simp
        rw [e1, e2, splice_mid _ _ _ _ (by simp; omega)]
        simp [dI]
section
variable {G : Nat → DVal} {H : DHeap} {n m r : Nat} {w : LW} {X : DHeap}
def dRun (w : LW) : DVal := match w.runG 32 with
  | some t => dI t
  | none => dI (-1)
theorem running_w (hr8 : ∀ p, p < 32 → (w.ready p).length ≤ 100) (k : WAt H n m r w X) : DCalls Try.prog G 8 [.optr r 0] X (DRet (dRun w) X) := by
  obtain ⟨rh, rs, ro, rm, rr, vr, hv, B, k⟩ := k
  have hsX := k.rows.sub
  have cX := hsX _ _ k.c
  have hX := hsX _ _ k.h
  have sX := hsX _ _ k.s
  have oX := hsX _ _ k.o
  have moX := hsX _ _ k.mo
  have hlr := k.lr
  have hlh := k.lh
  have hlen := wC_len (vb := .vslice ((List.range n).map fun t => dI (w.base t)) n) (vh := .oslice 1 rh 0 n n) (vs := .oslice 1 rs 0 n n) (vc := .vslice ((List.range m).map fun o => dI (w.ceil o)) m) (vo := .oslice 3 ro 0 m m) (vm := .oslice 1 rm 0 m m) hlr
  refine dcalls_intro Try.func8 Try.call8 rfl (by kernel_rfl) ?_
  simp (disch := omega) only [go_sem, ↓reduceIte]
  obtain ⟨I, hI⟩ : ∃ I : Nat → (Nat → DVal) → DHeap → Prop, ∀ p env heap, I p env heap ↔ (env 0 = .optr r 0 ∧ env 3 = dI ((p : Int) - 1) ∧ p ≤ 32 ∧ w.runG 32 = w.runG p ∧ heap = X) := ⟨_, fun _ _ _ => Iff.rfl⟩
  refine DLoop.run I (fun p => p) 32 ((hI _ _ _).2 ?_) ?_
  · simp (disch := omega) only [go_sem, ↓reduceIte]
    (repeat' apply And.intro) <;> (try first | rfl | assumption | omega)
  · intro p env heap hp
    obtain ⟨e0, e3, hp32, hrun, rfl⟩ := (hI _ _ _).1 hp
    cases p with
    | zero =>
      simp (disch := omega) only [go_sem, ↓reduceIte, e0, e3]
      refine DFin.refl ⟨?_, rfl⟩
      rw [dRun, hrun]; rfl
    | succ p =>
      obtain ⟨v, H1, hvp, hvv, -, -⟩ := k.readyRow (p := p) (by omega)
      have vl := hvv.vlen
      have hcl := cL_len (w.ready p)
      have h3p := wC_r (vb := .vslice ((List.range n).map fun t => dI (w.base t)) n) (vh := .oslice 1 rh 0 n n) (vs := .oslice 1 rs 0 n n) (vc := .vslice ((List.range m).map fun o => dI (w.ceil o)) m) (vo := .oslice 3 ro 0 m m) (vm := .oslice 1 rm 0 m m) hlr (show p < 32 by omega)
      rw [hvp] at h3p
      have hp1 : ((p + 1 : Nat) : Int) - 1 = (p : Int) := by omega
      have hge : (0 : Int) ≤ (p : Int) := by omega
      have hp32' : (p : Int) < 32 := by omega
      rw [hp1] at e3
      have hun : w.runG (p + 1) = match w.ready p with | t :: _ => some t | [] => w.runG p := rfl
      cases hrp : w.ready p with
      | nil =>
        have hcl0 : (cL (w.ready p)).length = 0 := by rw [hrp]; rfl
        rw [hrp] at hun
        simp (disch := omega) only [go_sem, ↓reduceIte, e0, e3, hge, hp32', cX, hlen, h3p, vl, hcl0, Int.toNat_natCast]
        refine ⟨p, _, GhostS.refl _, (hI _ _ _).2 ?_, by omega⟩
        have hwp : IntKind.i64.wrap ((p : Int) - 1) = (p : Int) - 1 := by rw [IntKind.wrap_i64]; omega
        simp (disch := omega) only [go_sem, ↓reduceIte, e0, e3, hwp]
        (repeat' apply And.intro) <;> (try first | rfl | assumption | omega)
        rw [hrun, hun]
      | cons t l =>
        obtain ⟨q, off, lo, cs, rfl, hq, hcs, hel⟩ := hvv.el (by rw [hrp]; simp [cL])
        have hcl0 : (cL (w.ready p)).length = l.length + 1 := by rw [hrp]; simp [cL]
        have hg := hel 0 (by omega)
        have hz : (cL (w.ready p))[0]'(by omega) = (t : Int) := by simp [hrp, cL]
        rw [hz, Nat.add_zero] at hg
        have hpos : (0 : Int) < ((l.length + 1 : Nat) : Int) := by omega
        rw [hrp] at hun
        rw [hcl0] at vl hcs h3p
        simp (disch := omega) only [go_sem, ↓reduceIte, e0, e3, hge, hp32', cX, hlen, h3p, vl, hpos, Int.toNat_natCast, hq, hg, hcs]
        refine DFin.refl ⟨?_, rfl⟩
        rw [dRun, hrun, hun]
/-- Ahead of the place p the task is dropped. -/
def dropTo (w : LW) (t p : Nat) : LW := { w with ready := fun x => if x < p then (w.ready x).filter fun y => !decide (y = t) else w.ready x }
theorem dropTo_0 (w : LW) (t : Nat) : dropTo w t 0 = w := by simp [dropTo]
theorem drop1_spec (G : Nat → DVal) (x t : Int) (rx : Nat) (H : DHeap) (hx : H rx = some (.cells [dI t] 3)) : DCalls Try.prog G 25 [dI x, .optr rx 0] H (DRet (.bool (decide (x = t))) H) := by
  refine dcalls_intro Try.func25 Try.call25 rfl (by kernel_rfl) ?_
  simp (disch := omega) only [go_sem, ↓reduceIte, hx]
  exact DFin.refl ⟨rfl, rfl⟩
theorem WAt.lo {H2 : DHeap} (h : WAt H2 n m r w X) (s : Sub H H2) : WAt H n m r w X := by
  obtain ⟨rh, rs, ro, rm, rr, vr, hv, B, k⟩ := h
  exact ⟨rh, rs, ro, rm, rr, vr, hv, B, { k with nw := fun b hb => s.lo (k.nw b hb), sub := s.trans k.sub }⟩
theorem WAt.frame (h : WAt H n m r w X) {q : Nat} (hq : X q = none) (o : DObj) : WAt (upd H q (some o)) n m r w (upd X q (some o)) := by
  obtain ⟨rh, rs, ro, rm, rr, vr, hv, B, k⟩ := h
  obtain ⟨k1, k2⟩ := k.rows.frame hq o
  have hne : ∀ {b x}, B b = some x → b ≠ q := fun h e => by rw [e, k2] at h; cases h
  have hB : ∀ {b x}, B b = some x → upd B q (some o) b = some x := fun h => by rw [upd_ne _ _ _ _ (hne h)]; exact h
  exact ⟨rh, rs, ro, rm, rr, vr, hv, upd B q (some o), {
    rows := k1, lr := k.lr, lh := k.lh, c := hB k.c, h := hB k.h, s := hB k.s, o := hB k.o, mo := hB k.mo, mr := fun o' ho' => hB (k.mr o' ho'), nd := k.nd
    nw := fun b hb => by
      have : b ≠ q := by
        simp only [List.mem_cons, List.mem_map, List.mem_range] at hb
        rcases hb with rfl | rfl | rfl | rfl | rfl | ⟨o', ho', rfl⟩
        · exact hne k.c
        · exact hne k.h
        · exact hne k.s
        · exact hne k.o
        · exact hne k.mo
        · exact hne (k.mr o' ho')
      rw [upd_ne _ _ _ _ this]; exact k.nw b hb
    sub := k.sub.both _ _ }⟩
theorem WAt.sub (h : WAt H n m r w X) : Sub H X := by
  obtain ⟨rh, rs, ro, rm, rr, vr, hv, B, k⟩ := h
  exact k.sub.trans k.rows.sub
theorem WAt.get (h : WAt H n m r w X) : X r ≠ none := by
  obtain ⟨rh, rs, ro, rm, rr, vr, hv, B, k⟩ := h
  rw [k.rows.sub _ _ k.c]; simp
theorem WAt.ready {w' : LW} (h : WAt H n m r w X) (e : ∀ p, p < 32 → w'.ready p = w.ready p) (e1 : w'.base = w.base) (e2 : w'.held = w.held) (e3 : w'.state = w.state) (e4 : w'.ceil = w.ceil) (e5 : w'.obj = w.obj) (e6 : w'.model = w.model) : WAt H n m r w' X := by
  obtain ⟨rh, rs, ro, rm, rr, vr, hv, B, k⟩ := h
  have er : (List.range 32).map (fun p => cL (w'.ready p)) = (List.range 32).map (fun p => cL (w.ready p)) := List.map_congr_left fun p hp => by rw [e p (List.mem_range.1 hp)]
  exact ⟨rh, rs, ro, rm, rr, vr, hv, B, {
    rows := by rw [er, e2]; exact k.rows
    lr := k.lr
    lh := k.lh
    c := by rw [e1, e4]; exact k.c
    h := k.h
    s := by rw [e3]; exact k.s
    o := by rw [e5]; exact k.o
    mo := by rw [e6]; exact k.mo
    mr := by rw [e6]; exact k.mr
    nd := k.nd
    nw := k.nw
    sub := k.sub }⟩
theorem cL_filter (l : List Nat) (t : Nat) : (cL l).filter (fun x => !decide (x = (t : Int))) = cL (l.filter fun x => !decide (x = t)) := by
  induction l with
  | nil => rfl
  | cons a l ih =>
    have : (((a : Nat) : Int) = (t : Int)) ↔ a = t := by omega
    simp only [cL, List.map_cons, List.filter_cons] at ih ⊢
    simp only [Int.ofNat_eq_natCast, this]
    split <;> simp_all
/-- One ready queue is another one. -/
theorem WM.setReady {rh rs ro rm : Nat} {rr : Nat → Nat} {vr hv : List DVal} {B X2 : DHeap} (k : WM H n m r rh rs ro rm rr vr hv w B X) {p : Nat} (hp : p < 32) {l' : List Nat} {v' : DVal}
    (h : OwnRows 3 B (((List.range 32).map fun x => cL (set1 w.ready p l' x)) ++ ((List.range n).map fun x => cL (w.held x))) (vr.set p v' ++ hv) X2) :
    WM H n m r rh rs ro rm rr (vr.set p v') hv { w with ready := set1 w.ready p l' } (upd B r (some (.cells (wC (.vslice ((List.range n).map fun t => dI (w.base t)) n) (.oslice 1 rh 0 n n) (.oslice 1 rs 0 n n) (.vslice ((List.range m).map fun o => dI (w.ceil o)) m) (.oslice 3 ro 0 m m) (.oslice 1 rm 0 m m) (vr.set p v')) 32))) (upd X2 r (some (.cells (wC (.vslice ((List.range n).map fun t => dI (w.base t)) n) (.oslice 1 rh 0 n n) (.oslice 1 rs 0 n n) (.vslice ((List.range m).map fun o => dI (w.ceil o)) m) (.oslice 3 ro 0 m m) (.oslice 1 rm 0 m m) (vr.set p v')) 32))) := by
  have hnd := k.nd
  simp only [List.nodup_cons, List.mem_cons, not_or, List.mem_map, List.mem_range, not_exists, not_and] at hnd
  obtain ⟨⟨n1, n2, n3, n4, n5⟩, -⟩ := hnd
  exact {
    rows := h.set (by rw [k.c]; simp) _
    lr := by rw [List.length_set]; exact k.lr
    lh := k.lh
    c := upd_same _ _ _
    h := by rw [upd_ne _ _ _ _ (Ne.symm n1)]; exact k.h
    s := by rw [upd_ne _ _ _ _ (Ne.symm n2)]; exact k.s
    o := by rw [upd_ne _ _ _ _ (Ne.symm n3)]; exact k.o
    mo := by rw [upd_ne _ _ _ _ (Ne.symm n4)]; exact k.mo
    mr := fun o ho => by rw [upd_ne _ _ _ _ (n5 o ho)]; exact k.mr o ho
    nd := k.nd
    nw := k.nw
    sub := k.sub.up (k.nw r (by simp)) _ }
set_option maxHeartbeats 4000000 in
theorem drop_w {t : Nat} (hr8 : ∀ p, p < 32 → (w.ready p).length ≤ 100) (k0 : WAt H n m r w X) : DCalls Try.prog G 12 [.optr r 0, dI t] X fun e X' => e = .ret (.tuple []) ∧ WAt H n m r (w.drop t) X' := by
  refine dcalls_intro Try.func12 Try.call12 rfl (by kernel_rfl) ?_
  simp (disch := omega) only [go_sem, ↓reduceIte]
  intro rt hrt; dsimp only at hrt
  simp (disch := omega) only [go_sem, ↓reduceIte]
  obtain ⟨I, hI⟩ : ∃ I : Nat → (Nat → DVal) → DHeap → Prop, ∀ p env heap, I p env heap ↔ (env 0 = .optr r 0 ∧ env 3 = .optr rt 0 ∧ env 5 = dI p ∧ p ≤ 32 ∧ WAt (upd H rt (some (.cells [dI t] 3))) n m r (dropTo w t p) heap) := ⟨_, fun _ _ _ => Iff.rfl⟩
  refine DLoop.run I (fun p => 32 - p) 0 ((hI _ _ _).2 ?_) ?_
  · simp (disch := omega) only [go_sem, ↓reduceIte]
    (repeat' apply And.intro) <;> (try first | rfl | assumption | omega)
    rw [dropTo_0]
    exact k0.frame hrt _
  · intro p env heap hp
    obtain ⟨e0, e3, e5, hp32, k⟩ := (hI _ _ _).1 hp
    by_cases hlt : p < 32
    · have hlt' : (p : Int) < 32 := by omega
      have ht0 := k.sub _ _ (upd_same H rt (some (.cells [dI t] 3)))
      obtain ⟨rh, rs, ro, rm, rr, vr, hv, B, k⟩ := k
      have hH := k.nw
      obtain ⟨v, H1, hvp, hvv, hsB, hput⟩ := k.readyRow (p := p) hlt
      have h3p := wC_r (vb := .vslice ((List.range n).map fun t => dI (w.base t)) n) (vh := .oslice 1 rh 0 n n) (vs := .oslice 1 rs 0 n n) (vc := .vslice ((List.range m).map fun o => dI (w.ceil o)) m) (vo := .oslice 3 ro 0 m m) (vm := .oslice 1 rm 0 m m) k.lr hlt
      rw [hvp] at h3p
      have hrp : (dropTo w t p).ready p = w.ready p := if_neg (by omega)
      rw [hrp] at hvv
      have hwp : IntKind.i64.wrap ((p : Int) + 1) = ((p + 1 : Nat) : Int) := by rw [IntKind.wrap_i64]; omega
      have hsX := k.rows.sub
      have cX := hsX _ _ k.c
      have hX := hsX _ _ k.h
      have sX := hsX _ _ k.s
      have oX := hsX _ _ k.o
      have moX := hsX _ _ k.mo
      have hlr := k.lr
      have hlh := k.lh
      have hlen := wC_len (vb := .vslice ((List.range n).map fun t => dI (w.base t)) n) (vh := .oslice 1 rh 0 n n) (vs := .oslice 1 rs 0 n n) (vc := .vslice ((List.range m).map fun o => dI (w.ceil o)) m) (vo := .oslice 3 ro 0 m m) (vm := .oslice 1 rm 0 m m) hlr
      dsimp only [dropTo] at cX hlen
      simp (disch := omega) only [go_sem, ↓reduceIte, e0, e3, e5, hlt']
      refine dwp_draws (by kernel_rfl) (.take 0 (.take 1 (.take 2 (.take 3 (.take 4 (.take 5 (.take 6 (.take 7 (.take 8 (.take 10 (.take 11 (.go 9 [] (.take 12 (.go 13 [] .done)))))))))))))) (by kernel_rfl) ?_
      simp (disch := omega) only [go_sem, ↓reduceIte, e0, e3, e5, hlt', cX, hlen, h3p, Int.toNat_natCast]
      have rtB := k.sub _ _ (upd_same H rt (some (.cells [dI t] 3)))
      refine (deleteFunc_v G (cL (w.ready p)) 25 [.optr rt 0] (fun x => decide (x = (t : Int))) v H1 heap hvv (by rw [cL_len]; have := hr8 p hlt; omega) fun x _ r' cs hr' => drop1_spec G x t rt _ (by
        rw [upd_ne _ _ _ _ (fun e => by rw [← e, hsB _ _ rtB] at hr'; cases hr')]; exact hsB _ _ rtB)).mono ?_
      rintro _ H2 ⟨v2, rfl, hv2⟩
      rw [cL_filter] at hv2
      have hrows := hput _ _ _ hv2
      have hc2 := hrows.sub _ _ k.c
      have h3s := fun x => wC_put (vb := .vslice ((List.range n).map fun t => dI (w.base t)) n) (vh := .oslice 1 rh 0 n n) (vs := .oslice 1 rs 0 n n) (vc := .vslice ((List.range m).map fun o => dI (w.ceil o)) m) (vo := .oslice 3 ro 0 m m) (vm := .oslice 1 rm 0 m m) (x := x) hlr hlt
      obtain ⟨c1, c2⟩ := hv2.cell1
      have km := k.setReady hlt hrows
      dsimp only [dropTo] at hc2 hlen
      simp (disch := omega) only [go_sem, ↓reduceIte, KeepK, e0, e3, e5, hlt', hc2, hlen, c1, c2, h3s, Int.toNat_natCast]
      refine ⟨p + 1, _, GhostS.refl _, (hI _ _ _).2 ?_, by omega⟩
      simp (disch := omega) only [go_sem, ↓reduceIte, e0, e3, e5, hwp]
      (repeat' apply And.intro) <;> (try first | rfl | assumption | omega)
      have eq : ({ dropTo w t p with ready := set1 (dropTo w t p).ready p ((w.ready p).filter fun x => !decide (x = t)) } : LW) = dropTo w t (p + 1) := by
        refine congrArg (fun f => ({ w with ready := f } : LW)) (funext fun x => ?_)
        show (if x = p then _ else if x < p then _ else _) = _
        by_cases c : x = p
        · rw [if_pos c, if_pos (by omega), c]
        · rw [if_neg c]
          by_cases c' : x < p
          · rw [if_pos c', if_pos (by omega)]
          · rw [if_neg c', if_neg (by omega)]
      rw [eq] at km
      exact ⟨_, _, _, _, _, _, _, _, km⟩
    · have hp' : p = 32 := by omega
      subst hp'
      simp (disch := omega) only [go_sem, ↓reduceIte, e0, e3, e5]
      refine DFin.refl ⟨rfl, (k.ready (w' := w.drop t) ?_ rfl rfl rfl rfl rfl rfl).lo ((Sub.refl H).new (k0.sub.lo hrt) _)⟩
      exact fun x hx => by rw [dropTo]; exact (if_pos hx).symm
end
end Go.Dl

-- LockFree: put.
namespace Go.Dl
open Go Go.Proofs
set_option maxRecDepth 100000
theorem sub_off (H : DHeap) (r : Nat) : Sub (upd H r none) H := fun b o hb => by
  by_cases e : b = r
  · subst e; rw [upd_same] at hb; cases hb
  · rw [upd_ne _ _ _ _ e] at hb; exact hb
theorem OwnV.src {e : TypeId} {H X : DHeap} {l : List Int} {v : DVal} (h : OwnV e H l v X) : srcCells 1 X v = some (l.length, l.map dI) := by
  rcases h with ⟨rfl, rfl, rfl⟩ | ⟨q, pre, lo, rest, hq, rfl, hlo, rfl⟩
  · rfl
  · simp only [srcCells, srcCellsO, upd_same]
    simp
section
variable {G : Nat → DVal} {H : DHeap} {n m r : Nat} {w : LW} {X : DHeap}
theorem WM.setState {rh rs ro rm : Nat} {rr : Nat → Nat} {vr hv : List DVal} {B : DHeap} (k : WM H n m r rh rs ro rm rr vr hv w B X) {t : Nat} (ht : t < n) (x : Int) :
    WM H n m r rh rs ro rm rr vr hv { w with state := set1 w.state t x } (upd B rs (some (.cells (((List.range n).map fun t => dI (w.state t)).set t (dI x)) 3))) (upd X rs (some (.cells (((List.range n).map fun t => dI (w.state t)).set t (dI x)) 3))) := by
  have hnd := k.nd
  simp only [List.nodup_cons, List.mem_cons, not_or, List.mem_map, List.mem_range, not_exists, not_and] at hnd
  obtain ⟨⟨n1, n2, n3, n4, n5⟩, ⟨n6, n7, n8, n9⟩, ⟨n10, n11, n12⟩, -⟩ := hnd
  exact {
    rows := k.rows.set (by rw [k.s]; simp) _
    lr := k.lr
    lh := k.lh
    c := by rw [upd_ne _ _ _ _ n2]; exact k.c
    h := by rw [upd_ne _ _ _ _ n6]; exact k.h
    s := by rw [upd_same, rangeMap_set0 w.state dI n t x ht]
    o := by rw [upd_ne _ _ _ _ (Ne.symm n10)]; exact k.o
    mo := by rw [upd_ne _ _ _ _ (Ne.symm n11)]; exact k.mo
    mr := fun o ho => by rw [upd_ne _ _ _ _ (n12 o ho)]; exact k.mr o ho
    nd := k.nd
    nw := k.nw
    sub := k.sub.up (k.nw rs (by simp)) _ }
theorem drop_act (w : LW) (t u : Nat) : (w.drop t).act u = w.act u := rfl
set_option maxHeartbeats 4000000 in
theorem put_w {t : Nat} {f : Bool} (hn : n ≤ 8) (hm : m ≤ 4) (ht : t < n) (ho : ∀ o ∈ w.held t, o < m) (hl : (w.held t).length ≤ 100) (hr8 : ∀ p, p < 32 → (w.ready p).length ≤ 100) (ha : 0 ≤ w.act t ∧ w.act t ≤ 31) (k0 : WAt H n m r w X) :
    DCalls Try.prog G 7 [.optr r 0, dI t, .bool f] X fun e X' => e = .ret (.bool true) ∧ WAt H n m r (w.put t f) X' := by
  refine dcalls_intro Try.func7 Try.call7 rfl (by kernel_rfl) ?_
  simp (disch := omega) only [go_sem, ↓reduceIte]
  refine (drop_w hr8 k0).mono ?_
  rintro _ X1 ⟨rfl, k1⟩
  simp (disch := omega) only [go_sem, ↓reduceIte]
  refine (active_w (w := w.drop t) hn hm ht ho hl k1).mono ?_
  rintro _ X2 ⟨rfl, rfl⟩
  rw [drop_act]
  obtain ⟨p, hp⟩ := Int.eq_ofNat_of_zero_le ha.1
  have hp32 : p < 32 := by omega
  have hpn : ¬ (p : Int) < 0 := by omega
  have hp3 : ¬ (31 : Int) < (p : Int) := by omega
  have hp4 : (p : Int) < 32 := by omega
  have hp5 : (0 : Int) ≤ (p : Int) := by omega
  rw [hp]
  obtain ⟨rh, rs, ro, rm, rr, vr, hv, B, k⟩ := k1
  obtain ⟨w1, hw1⟩ : ∃ w1, w1 = w.drop t := ⟨_, rfl⟩
  rw [← hw1] at k
  have hsX := k.rows.sub
  have cX := hsX _ _ k.c
  have hX := hsX _ _ k.h
  have sX := hsX _ _ k.s
  have oX := hsX _ _ k.o
  have moX := hsX _ _ k.mo
  have hlr := k.lr
  have hlh := k.lh
  have hlen := wC_len (vb := .vslice ((List.range n).map fun t => dI (w1.base t)) n) (vh := .oslice 1 rh 0 n n) (vs := .oslice 1 rs 0 n n) (vc := .vslice ((List.range m).map fun o => dI (w1.ceil o)) m) (vo := .oslice 3 ro 0 m m) (vm := .oslice 1 rm 0 m m) hlr
  have hk2 := k.setState ht 1
  have hst : splice ((List.range n).map fun t => dI (w1.state t)) t [dI 1] = ((List.range n).map fun t => dI (w1.state t)).set t (dI 1) := splice_setD _ _ _ (by simp; omega)
  simp (disch := omega) only [go_sem, ↓reduceIte, hpn, hp3, cX, hlen, wC_2, sX, List.length_range, Int.toNat_natCast, hst]
  obtain ⟨X3, hX3⟩ : ∃ X3, X3 = upd X2 rs (some (.cells (((List.range n).map fun t => dI (w1.state t)).set t (dI 1)) 3)) := ⟨_, rfl⟩
  rw [← hX3] at hk2 ⊢
  obtain ⟨B3, hB3⟩ : ∃ B3, B3 = upd B rs (some (.cells (((List.range n).map fun t => dI (w1.state t)).set t (dI 1)) 3)) := ⟨_, rfl⟩
  rw [← hB3] at hk2
  obtain ⟨w2, hw2⟩ : ∃ w2 : LW, w2 = { w1 with state := set1 w1.state t 1 } := ⟨_, rfl⟩
  rw [← hw2] at hk2
  have eput : w.put t f = { w2 with ready := set1 w2.ready p (if f then t :: w2.ready p else w2.ready p ++ [t]) } := by
    rw [hw2, hw1]
    show ({ w.drop t with state := _, ready := set1 _ ((w.drop t).act t).toNat _ } : LW) = _
    rw [drop_act, hp]; rfl
  have hr82 : (w2.ready p).length ≤ 100 := by
    have h1 : w2.ready p = (w.ready p).filter fun x => !decide (x = t) := by rw [hw2, hw1]; rfl
    have := List.length_filter_le (fun x => !decide (x = t)) (w.ready p)
    have := hr8 p hp32
    rw [h1]; omega
  clear hst hX3 hB3 hsX cX hX sX oX moX hlr hlh hlen k
  have k := hk2
  have hsX := k.rows.sub
  have cX := hsX _ _ k.c
  have hX := hsX _ _ k.h
  have sX := hsX _ _ k.s
  have oX := hsX _ _ k.o
  have moX := hsX _ _ k.mo
  have hlr := k.lr
  have hlh := k.lh
  have hlen := wC_len (vb := .vslice ((List.range n).map fun t => dI (w2.base t)) n) (vh := .oslice 1 rh 0 n n) (vs := .oslice 1 rs 0 n n) (vc := .vslice ((List.range m).map fun o => dI (w2.ceil o)) m) (vo := .oslice 3 ro 0 m m) (vm := .oslice 1 rm 0 m m) hlr
  obtain ⟨v, H1, hvp, hvv, hsB, hput⟩ := k.readyRow hp32
  have h3p := wC_r (vb := .vslice ((List.range n).map fun t => dI (w2.base t)) n) (vh := .oslice 1 rh 0 n n) (vs := .oslice 1 rs 0 n n) (vc := .vslice ((List.range m).map fun o => dI (w2.ceil o)) m) (vo := .oslice 3 ro 0 m m) (vm := .oslice 1 rm 0 m m) k.lr hp32
  rw [hvp] at h3p
  have h3s := fun x => wC_put (vb := .vslice ((List.range n).map fun t => dI (w2.base t)) n) (vh := .oslice 1 rh 0 n n) (vs := .oslice 1 rs 0 n n) (vc := .vslice ((List.range m).map fun o => dI (w2.ceil o)) m) (vo := .oslice 3 ro 0 m m) (vm := .oslice 1 rm 0 m m) (x := x) hlr hp32
  have hcl := cL_len (w2.ready p)
  cases f with
  | false =>
    simp (disch := omega) only [go_sem, ↓reduceIte]
    refine dwp_draws (by kernel_rfl) (.take 0 (.take 1 (.take 2 (.take 3 (.take 4 (.take 5 (.take 6 (.take 7 (.take 8 (.take 11 (.take 12 (.go 9 [7] (.go 10 [] (.take 13 (.go 14 [] .done))))))))))))))) (by kernel_rfl) ?_
    simp (disch := omega) only [go_sem, ↓reduceIte, hp4, hp5, cX, hlen, h3p, Int.toNat_natCast]
    intro q0 hq0; dsimp only at hq0
    have nq0 : r ≠ q0 := none_ne hq0 cX
    simp (disch := omega) only [go_sem, ↓reduceIte, hp4, hp5, cX, hlen, h3p, Int.toNat_natCast, nq0]
    have hvf := (hvv.frame hq0 (.cells [dI t] 3)).1
    have hq1 := (hvv.frame hq0 (.cells [dI t] 3)).2
    refine OwnV.append1 hvf (by rw [hcl]; omega) fun v2 H2 hv2 => ?_
    have hv3 : OwnV 3 H1 (cL (w2.ready p ++ [t])) v2 (upd H2 q0 none) := by
      have := hv2.unframe hq1
      rw [show cL (w2.ready p ++ [t]) = cL (w2.ready p) ++ [(t : Int)] by simp [cL]]; exact this
    have hrows := hput _ _ _ hv3
    have hc2 := sub_off _ _ _ _ (hrows.sub _ _ k.c)
    have km := k.setReady hp32 hrows
    obtain ⟨c1, c2⟩ := hv2.cell1
    simp (disch := omega) only [go_sem, ↓reduceIte, KeepK, hp4, hp5, hc2, hlen, c1, c2, h3s, Int.toNat_natCast]
    refine DFin.sub (Sub.both (sub_off H2 q0) r _) (DFin.refl ⟨rfl, ?_⟩)
    rw [eput]
    exact ⟨_, _, _, _, _, _, _, _, km⟩
  | true =>
    simp (disch := omega) only [go_sem, ↓reduceIte]
    refine dwp_draws (by kernel_rfl) (.take 0 (.take 1 (.take 2 (.take 4 (.take 5 (.take 6 (.take 7 (.take 8 (.take 9 (.take 11 (.take 12 (.go 3 [9] (.go 10 [] (.take 13 (.go 14 [] .done))))))))))))))) (by kernel_rfl) ?_
    simp (disch := omega) only [go_sem, ↓reduceIte, hp4, hp5, cX, hlen, h3p, Int.toNat_natCast]
    intro q0 hq0; dsimp only at hq0
    have nq0 : r ≠ q0 := none_ne hq0 cX
    have hsrc := (hvv.frame hq0 (.cells [dI t] 3)).1.src
    rw [hcl] at hsrc
    have hone : ((cL (w2.ready p)).map dI).all (fun d => d.one) = true := by simp [dI, DVal.one]
    have hcm : ((cL (w2.ready p)).map dI).length = (w2.ready p).length := by rw [List.length_map, hcl]
    simp (disch := omega) only [go_sem, ↓reduceIte, hp4, hp5, cX, hlen, h3p, Int.toNat_natCast, nq0, hsrc, hone, hcm, Nat.div_one]
    have hj : OwnJ X3 3 1 1 [dI t] (.oslice 1 q0 0 1 1) (upd X3 q0 (some (.cells [dI t] 3))) := .inr ⟨q0, hq0, rfl, rfl, upd_same _ _ _, (Sub.refl _).new hq0 _⟩
    refine OwnJ.appendO (bytes := 8) (m := (w2.ready p).length) hj (by rw [hcm]; omega) (by omega) fun v2 H2 hv2 => ?_
    obtain ⟨Hx, hx1, hx2⟩ := hv2.exact
    have hx3 : OwnV 3 X3 (cL (t :: w2.ready p)) v2 Hx := OwnA.ownV (by
      have e1 : (cL (t :: w2.ready p)).length = 1 + (w2.ready p).length := by rw [cL_len, List.length_cons]; omega
      rw [e1]; exact hx1)
    obtain ⟨Hy, hy1, hy2⟩ := hvv.drop hx3
    have hrows := hput _ _ _ hy1
    have hsy : Sub Hy H2 := Sub.trans hy2 hx2
    have hc2 := hsy _ _ (hrows.sub _ _ k.c)
    have km := k.setReady hp32 hrows
    obtain ⟨c1, c2⟩ := hv2.cell1
    simp (disch := omega) only [go_sem, ↓reduceIte, KeepK, hp4, hp5, hc2, hlen, c1, c2, h3s, Int.toNat_natCast]
    refine DFin.sub (Sub.both hsy r _) (DFin.refl ⟨rfl, ?_⟩)
    rw [eput]
    exact ⟨_, _, _, _, _, _, _, _, km⟩
end
end Go.Dl
