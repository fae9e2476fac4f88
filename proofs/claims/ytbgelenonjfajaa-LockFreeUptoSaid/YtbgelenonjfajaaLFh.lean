/- The data level and the contracts of the functions that are reached (part 8). -/
import Derived.Test.YtbgelenonjfajaaLFg
set_option linter.unusedSimpArgs false
set_option linter.unusedVariables false
-- LockFree: begin.
namespace Go.Dl
open Go Go.Proofs
set_option maxRecDepth 100000
section
variable {P : Program} {G : Nat → DVal} {N : Nat} {Q : DExit → DS → Prop}
/-- A drawn region: what holds behind it is said once for all orders. -/
theorem dwp_cut {id : Nat} {ops : Array Oper} {s : DS} (Q1 : DExit → DS → Prop) (h : dwp P G N (.region id ops true) Q1 s) (k : ∀ e s', Q1 e s' → Q e s') : dwp P G N (.region id ops true) Q s := by
  simp only [dwp] at h ⊢
  intro F n B hF a w hS
  exact wpIn_mono (h F n B hF a w hS) fun e a w ⟨e', s', q, r⟩ => ⟨e', s', k _ _ q, r⟩
end
theorem dPc_len (s : PS) : (dPc s).length = 3 := rfl
theorem objs_len (f : Nat → PS) (m : Nat) : ((List.range m).flatMap fun o => dPc (f o)).length = m * 3 := by
  induction m with
  | zero => rfl
  | succ m ih => rw [List.range_succ, List.flatMap_append, List.length_append, ih, List.flatMap_singleton, dPc_len]; omega
theorem objs_split (f : Nat → PS) {m o : Nat} (h : o < m) : ((List.range m).flatMap fun o => dPc (f o)) = ((List.range o).flatMap fun o => dPc (f o)) ++ (dPc (f o) ++ ((List.range' (o + 1) (m - (o + 1))).flatMap fun o => dPc (f o))) := by
  have : List.range m = List.range o ++ (o :: List.range' (o + 1) (m - (o + 1))) := by
    rw [List.range_eq_range', List.range_eq_range', ← List.range'_succ, show List.range' o (m - (o + 1) + 1) = List.range' (0 + o) (m - (o + 1) + 1) by rw [Nat.zero_add], List.range'_append_1, show o + (m - (o + 1) + 1) = m by omega]
  rw [this, List.flatMap_append, List.flatMap_cons]
theorem objs_get (f : Nat → PS) {m o : Nat} (h : o < m) : (((List.range m).flatMap fun o => dPc (f o)).drop (o * 3)).take 3 = dPc (f o) := by
  rw [objs_split f h, ← objs_len f o, List.drop_left]; rfl
theorem flatMap_congr0 {α β : Type} {f g : α → List β} : ∀ {l : List α}, (∀ x ∈ l, f x = g x) → l.flatMap f = l.flatMap g
  | [], _ => rfl
  | a :: l, h => by rw [List.flatMap_cons, List.flatMap_cons, h a List.mem_cons_self, flatMap_congr0 fun x hx => h x (List.mem_cons_of_mem _ hx)]
theorem objs_put (f : Nat → PS) {m o : Nat} (h : o < m) (s : PS) : splice ((List.range m).flatMap fun o => dPc (f o)) (o * 3) (dPc s) = (List.range m).flatMap fun x => dPc (set1 f o s x) := by
  rw [objs_split f h, objs_split (set1 f o s) h, ← objs_len f o, splice_mid _ (dPc (f o)) _ (dPc s) rfl, set1_same]
  congr 1
  · exact flatMap_congr0 fun x hx => by rw [set1_ne _ _ (by have := List.mem_range.1 hx; omega)]
  · congr 1
    exact flatMap_congr0 fun x hx => by rw [set1_ne _ _ (by have := (List.mem_range'_1.1 hx).1; omega)]
section
variable {G : Nat → DVal} {H : DHeap} {n m r : Nat} {w : LW} {X : DHeap}
section
variable {rh rs ro rm : Nat} {rr : Nat → Nat} {vr hv : List DVal} {B : DHeap}
theorem WM.setObj (k : WM H n m r rh rs ro rm rr vr hv w B X) {o : Nat} (ho : o < m) (s : PS) :
    WM H n m r rh rs ro rm rr vr hv { w with obj := set1 w.obj o s } (upd B ro (some (.cells ((List.range m).flatMap fun x => dPc (set1 w.obj o s x)) 36))) (upd X ro (some (.cells ((List.range m).flatMap fun x => dPc (set1 w.obj o s x)) 36))) := by
  have hnd := k.nd
  simp only [List.nodup_cons, List.mem_cons, not_or, List.mem_map, List.mem_range, not_exists, not_and] at hnd
  obtain ⟨⟨n1, n2, n3, n4, n5⟩, ⟨n6, n7, n8, n9⟩, ⟨n10, n11, n12⟩, ⟨n13, n14⟩, -⟩ := hnd
  exact {
    rows := k.rows.set (by rw [k.o]; simp) _
    lr := k.lr
    lh := k.lh
    c := by rw [upd_ne _ _ _ _ n3]; exact k.c
    h := by rw [upd_ne _ _ _ _ n7]; exact k.h
    s := by rw [upd_ne _ _ _ _ n10]; exact k.s
    o := upd_same _ _ _
    mo := by rw [upd_ne _ _ _ _ (Ne.symm n13)]; exact k.mo
    mr := fun o ho => by rw [upd_ne _ _ _ _ (n14 o ho)]; exact k.mr o ho
    nd := k.nd
    nw := k.nw
    sub := k.sub.up (k.nw ro (by simp)) _ }
theorem WM.frame (k : WM H n m r rh rs ro rm rr vr hv w B X) {q : Nat} (hq : X q = none) (o : DObj) : WM (upd H q (some o)) n m r rh rs ro rm rr vr hv w (upd B q (some o)) (upd X q (some o)) := by
  obtain ⟨k1, k2⟩ := k.rows.frame hq o
  have hne : ∀ {b x}, B b = some x → b ≠ q := fun h e => by rw [e, k2] at h; cases h
  have hB : ∀ {b x}, B b = some x → upd B q (some o) b = some x := fun h => by rw [upd_ne _ _ _ _ (hne h)]; exact h
  exact {
    rows := k1, lr := k.lr, lh := k.lh, c := hB k.c, h := hB k.h, s := hB k.s, o := hB k.o, mo := hB k.mo, mr := fun o' ho' => hB (k.mr o' ho'), nd := k.nd
    nw := fun b hb => by
      have : b ≠ q := by
        simp only [List.mem_cons, List.mem_map, List.mem_range] at hb
        rcases hb with rfl | rfl | rfl | rfl | rfl | ⟨o', ho', rfl⟩
        · exact hne k.c
        · exact hne k.h
        · exact hne k.s
        · exact hne k.o
        · exact hne k.mo
        · exact hne (k.mr o' ho')
      rw [upd_ne _ _ _ _ this]; exact k.nw b hb
    sub := k.sub.both _ _ }
theorem WM.setHeld {X2 : DHeap} (k : WM H n m r rh rs ro rm rr vr hv w B X) {t : Nat} (ht : t < n) {l' : List Nat} {v' : DVal}
    (h : OwnRows 3 B (((List.range 32).map fun x => cL (w.ready x)) ++ ((List.range n).map fun x => cL (set1 w.held t l' x))) (vr ++ hv.set t v') X2) :
    WM H n m r rh rs ro rm rr vr (hv.set t v') { w with held := set1 w.held t l' } (upd B rh (some (.cells (hv.set t v') 27))) (upd X2 rh (some (.cells (hv.set t v') 27))) := by
  have hnd := k.nd
  simp only [List.nodup_cons, List.mem_cons, not_or, List.mem_map, List.mem_range, not_exists, not_and] at hnd
  obtain ⟨⟨n1, n2, n3, n4, n5⟩, ⟨n6, n7, n8, n9⟩, -⟩ := hnd
  exact {
    rows := h.set (by rw [k.h]; simp) _
    lr := k.lr
    lh := by rw [List.length_set]; exact k.lh
    c := by rw [upd_ne _ _ _ _ n1]; exact k.c
    h := upd_same _ _ _
    s := by rw [upd_ne _ _ _ _ (Ne.symm n6)]; exact k.s
    o := by rw [upd_ne _ _ _ _ (Ne.symm n7)]; exact k.o
    mo := by rw [upd_ne _ _ _ _ (Ne.symm n8)]; exact k.mo
    mr := fun o ho => by rw [upd_ne _ _ _ _ (n9 o ho)]; exact k.mr o ho
    nd := k.nd
    nw := k.nw
    sub := k.sub.up (k.nw rh (by simp)) _ }
end
/-- Same, of frozen queues and of those of the model. -/
theorem same_w (G : Nat → DVal) {K : DHeap} (a b : List (List Int)) {q : Nat} (ha : a.length ≤ 8) (hb : b.length ≤ 8) (hal : ∀ l ∈ a, l.length ≤ 1099511627776) (hbl : ∀ l ∈ b, l.length ≤ 1099511627776) (h : K q = some (.cells (b.map dIs) 27)) :
    DCalls Try.prog G 23 [dIss a, .oslice 1 q 0 b.length b.length] K (DRet (.bool (decide (a = b))) K) := by
  have hs := same_spec G a b h0 (by omega) (by omega) hal hbl
  have hj : OwnJ h0 27 1 b.length (b.map dIs) (.oslice 1 q 0 b.length b.length) K := .inr ⟨q, rfl, by simp, rfl, h, fun b o hb => by cases hb⟩
  exact DCalls.lent (hs.mono fun e H' h => h) (hj.lend2 _) rfl
set_option maxHeartbeats 4000000 in
theorem begin_w {t o : Nat} (hn : n ≤ 8) (hm : m ≤ 4) (ht : t < n) (ho : o < m) (hh : ∀ o ∈ w.held t, o < m) (hl : (w.held t).length < 100) (hr8 : ∀ p, p < 32 → (w.ready p).length ≤ 100) (ha : 0 ≤ w.ceil o ∧ w.ceil o ≤ 31 ∧ w.act t ≤ w.ceil o)
    (hq : mayQ (w.obj o).q = true) (hmo : w.model o = (w.obj o).q) (hb : beginL (w.obj o) t (w.act t) (w.ceil o) = (⟨true, t, (w.obj o).q⟩, 0)) (hact : 0 ≤ (({ w with obj := set1 w.obj o ⟨true, t, (w.obj o).q⟩, held := set1 w.held t (w.held t ++ [o]) } : LW)).act t ∧ (({ w with obj := set1 w.obj o ⟨true, t, (w.obj o).q⟩, held := set1 w.held t (w.held t ++ [o]) } : LW)).act t ≤ 31) (k0 : WAt H n m r w X) :
    DCalls Try.prog G 11 [.optr r 0, dI t, dI o] X fun e X' => e = .ret (.bool true) ∧ WAt H n m r (w.begin t o) X' := by
  have hac := active_w (G := G) hn hm ht hh (by omega) k0
  have kk := k0
  obtain ⟨rh, rs, ro, rm, rr, vr, hv, B, k⟩ := kk
  have hsX := k.rows.sub
  have cX := hsX _ _ k.c
  have hX := hsX _ _ k.h
  have sX := hsX _ _ k.s
  have oX := hsX _ _ k.o
  have moX := hsX _ _ k.mo
  have hlr := k.lr
  have hlh := k.lh
  have hlen := wC_len (vb := .vslice ((List.range n).map fun t => dI (w.base t)) n) (vh := .oslice 1 rh 0 n n) (vs := .oslice 1 rs 0 n n) (vc := .vslice ((List.range m).map fun o => dI (w.ceil o)) m) (vo := .oslice 3 ro 0 m m) (vm := .oslice 1 rm 0 m m) hlr
  have h35 := wC_35 (vb := .vslice ((List.range n).map fun t => dI (w.base t)) n) (vh := .oslice 1 rh 0 n n) (vs := .oslice 1 rs 0 n n) (vc := .vslice ((List.range m).map fun o => dI (w.ceil o)) m) (vo := .oslice 3 ro 0 m m) (vm := .oslice 1 rm 0 m m) hlr
  have h36 := wC_36 (vb := .vslice ((List.range n).map fun t => dI (w.base t)) n) (vh := .oslice 1 rh 0 n n) (vs := .oslice 1 rs 0 n n) (vc := .vslice ((List.range m).map fun o => dI (w.ceil o)) m) (vo := .oslice 3 ro 0 m m) (vm := .oslice 1 rm 0 m m) hlr
  have h37 := wC_37 (vb := .vslice ((List.range n).map fun t => dI (w.base t)) n) (vh := .oslice 1 rh 0 n n) (vs := .oslice 1 rs 0 n n) (vc := .vslice ((List.range m).map fun o => dI (w.ceil o)) m) (vo := .oslice 3 ro 0 m m) (vm := .oslice 1 rm 0 m m) hlr
  have hcg := dI_map_get w.ceil ho
  have hog := objs_get w.obj ho
  have hol := objs_len w.obj m
  have hqn : mayQ (w.obj o).q = true := hq
  have hol8 := mayQ_len hq
  have hrow := fun l h => Nat.le_trans (mayQ_row (l := l) hq h) (show 32 ≤ 1099511627776 by decide)
  have hbe := fun K => OwnR1.frozen (begin_spec G (w.obj o) t (w.act t) (w.ceil o) K (by omega) hrow)
  simp only [hb] at hbe
  have hac0 := fun r7 h7 o7 => active_w (G := G) hn hm ht hh (by omega) (k0.frame (q := r7) h7 o7)
  refine dcalls_intro Try.func11 Try.call11 rfl (by kernel_rfl) ?_
  simp (disch := omega) only [go_sem, ↓reduceIte]
  refine dwp_cut (fun e s' => e = .normal ∧ s'.env 0 = .optr r 0 ∧ s'.env 1 = dI t ∧ s'.env 2 = dI o ∧ s'.env 8 = dI 0 ∧ ∃ r7, X r7 = none ∧ s'.env 7 = .optr r7 0 ∧ s'.heap = upd X r7 (some (.cells (dPc ⟨true, t, (w.obj o).q⟩) 36))) ?_ ?_
  · refine dwp_draws (by kernel_rfl) (.take 0 (.take 1 (.take 2 (.take 3 (.take 4 (.take 5 (.take 6 (.take 7 (.take 8 (.take 9 (.take 11 (.take 12 (.take 13 (.take 14 (.take 15 (.take 16 (.take 17 (.alt (.go 22 [17, 14, 6, 3] (.go 10 [17, 14, 6, 3] (.go 18 [] (.take 19 (.take 20 (.take 21 (.go 23 [] (.take 24 .done)))))))) (.go 10 [17, 14, 6, 3] (.alt (.go 22 [17, 14, 6, 3] (.go 18 [] (.take 19 (.take 20 (.take 21 (.go 23 [] (.take 24 .done))))))) (.go 18 [] (.take 19 (.take 20 (.take 21 (.go 22 [17, 14, 6, 3] (.go 23 [] (.take 24 .done))))))))))))))))))))))))))) (by kernel_rfl) ?_
    simp (disch := omega) only [go_sem, ↓reduceIte, cX, hlen, h35, h36, hcg, oX, hog, hol, dPc_len, Int.toNat_natCast, List.length_range, KeepK]
    refine ⟨?_, ?_⟩
    · intro r7 h7; dsimp only at h7
      have n7 : r ≠ r7 := none_ne h7 cX
      have no7 : ro ≠ r7 := none_ne h7 oX
      simp (disch := omega) only [go_sem, ↓reduceIte, cX, hlen, h35, h36, hcg, oX, hog, hol, dPc_len, Int.toNat_natCast, List.length_range, KeepK, n7, no7]
      refine (hac0 r7 h7 _).mono ?_
      rintro _ K ⟨rfl, rfl⟩
      simp (disch := omega) only [go_sem, ↓reduceIte, cX, hlen, h35, h36, hcg, oX, hog, hol, dPc_len, Int.toNat_natCast, List.length_range, KeepK, n7, no7]
      refine (hbe _).mono ?_
      rintro _ K ⟨rfl, rfl⟩
      simp (disch := omega) only [go_sem, ↓reduceIte, dR1, dPS, h7, KeepK]
      exact ⟨r7, h7, rfl, rfl⟩
    · refine hac.mono ?_
      rintro _ K ⟨rfl, rfl⟩
      simp (disch := omega) only [go_sem, ↓reduceIte, cX, hlen, h35, h36, hcg, oX, hog, hol, dPc_len, Int.toNat_natCast, List.length_range, KeepK]
      refine ⟨?_, ?_⟩
      · intro r7 h7; dsimp only at h7
        have n7 : r ≠ r7 := none_ne h7 cX
        have no7 : ro ≠ r7 := none_ne h7 oX
        simp (disch := omega) only [go_sem, ↓reduceIte, cX, hlen, h35, h36, hcg, oX, hog, hol, dPc_len, Int.toNat_natCast, List.length_range, KeepK, n7, no7]
        refine (hbe _).mono ?_
        rintro _ K ⟨rfl, rfl⟩
        simp (disch := omega) only [go_sem, ↓reduceIte, dR1, dPS, h7, KeepK]
        exact ⟨r7, h7, rfl, rfl⟩
      · refine (hbe _).mono ?_
        rintro _ K ⟨rfl, rfl⟩
        simp (disch := omega) only [go_sem, ↓reduceIte, dR1, dPS, cX, hlen, h35, h36, hcg, oX, hog, hol, dPc_len, Int.toNat_natCast, List.length_range, KeepK]
        intro r7 h7; dsimp only at h7
        have n7 : r ≠ r7 := none_ne h7 cX
        have no7 : ro ≠ r7 := none_ne h7 oX
        simp (disch := omega) only [go_sem, ↓reduceIte, dR1, dPS, h7, KeepK, n7, no7]
        exact ⟨r7, h7, rfl, rfl⟩
  · rintro _ ⟨env, K⟩ ⟨rfl, e0, e1, e2, e8, r7, h7, e7, hK⟩
    dsimp only at e0 e1 e2 e7 e8 hK
    have k1 := k0.frame h7 (.cells (dPc ⟨true, t, (w.obj o).q⟩) 36)
    rw [← hK] at k1
    clear hcg hog hol h35 h36 h37 hlen hlh hlr moX oX sX hX cX hsX k hac
    obtain ⟨rh, rs, ro, rm, rr, vr, hv, B, k⟩ := k1
    have hsX := k.rows.sub
    have cX := hsX _ _ k.c
    have hX := hsX _ _ k.h
    have sX := hsX _ _ k.s
    have oX := hsX _ _ k.o
    have moX := hsX _ _ k.mo
    have hlr := k.lr
    have hlh := k.lh
    have hlen := wC_len (vb := .vslice ((List.range n).map fun t => dI (w.base t)) n) (vh := .oslice 1 rh 0 n n) (vs := .oslice 1 rs 0 n n) (vc := .vslice ((List.range m).map fun o => dI (w.ceil o)) m) (vo := .oslice 3 ro 0 m m) (vm := .oslice 1 rm 0 m m) hlr
    have h35 := wC_35 (vb := .vslice ((List.range n).map fun t => dI (w.base t)) n) (vh := .oslice 1 rh 0 n n) (vs := .oslice 1 rs 0 n n) (vc := .vslice ((List.range m).map fun o => dI (w.ceil o)) m) (vo := .oslice 3 ro 0 m m) (vm := .oslice 1 rm 0 m m) hlr
    have h36 := wC_36 (vb := .vslice ((List.range n).map fun t => dI (w.base t)) n) (vh := .oslice 1 rh 0 n n) (vs := .oslice 1 rs 0 n n) (vc := .vslice ((List.range m).map fun o => dI (w.ceil o)) m) (vo := .oslice 3 ro 0 m m) (vm := .oslice 1 rm 0 m m) hlr
    have h37 := wC_37 (vb := .vslice ((List.range n).map fun t => dI (w.base t)) n) (vh := .oslice 1 rh 0 n n) (vs := .oslice 1 rs 0 n n) (vc := .vslice ((List.range m).map fun o => dI (w.ceil o)) m) (vo := .oslice 3 ro 0 m m) (vm := .oslice 1 rm 0 m m) hlr
    have g7 := hsX _ _ (k.sub _ _ (upd_same H r7 _))
    have hd : dPc ⟨true, t, (w.obj o).q⟩ = [.bool true, dI t, dIss (w.obj o).q] := rfl
    have hol := objs_len w.obj m
    rw [hd] at g7
    have hcg : ((List.range m).map fun o => .oslice 1 (rr o) 0 (w.model o).length (w.model o).length)[o]? = some (DVal.oslice 1 (rr o) 0 (w.model o).length (w.model o).length) := by
      rw [List.getElem?_map, List.getElem?_range ho]; rfl
    have hmX := hsX _ _ (k.mr o ho)
    have hsm := same_w G (K := K) (w.obj o).q (w.model o) (q := rr o) hol8 (by rw [hmo]; exact hol8) hrow (by rw [hmo]; exact hrow) hmX
    rw [hmo] at hsm hcg
    simp only [decide_true] at hsm
    simp (disch := omega) only [go_sem, ↓reduceIte, e0, e1, e2, e7, e8]
    refine dwp_draws (by kernel_rfl) (.take 0 (.take 1 (.take 2 (.take 3 (.take 4 (.take 5 (.take 6 (.take 7 (.take 8 (.take 9 (.take 10 (.take 11 (.take 12 (.take 13 (.take 14 (.take 15 (.take 16 (.take 17 (.take 18 (.take 19 (.take 20 (.take 21 (.take 22 (.go 23 [] (.take 24 (.take 25 .done)))))))))))))))))))))))))) (by kernel_rfl) ?_
    simp (disch := omega) only [go_sem, ↓reduceIte, e0, e1, e2, e7, e8, g7, cX, hlen, h37, moX, hcg, Int.toNat_natCast, List.length_range, KeepK]
    refine hsm.mono ?_
    rintro _ K2 ⟨rfl, rfl⟩
    have no7 : ro ≠ r7 := fun e => by
      have h1 := k.nw ro (by simp)
      rw [e, upd_same] at h1; cases h1
    have nr7 : r ≠ r7 := fun e => by
      have h1 := k.nw r (by simp)
      rw [e, upd_same] at h1; cases h1
    simp (disch := omega) only [go_sem, ↓reduceIte, e0, e1, e2, e7, e8, KeepK, g7]
    refine dwp_draws (by kernel_rfl) (.take 0 (.take 1 (.take 2 (.take 3 (.take 4 (.take 5 (.take 6 (.go 7 [] .done)))))))) (by kernel_rfl) ?_
    have hput1 := objs_put w.obj ho ⟨true, t, (w.obj o).q⟩
    rw [hd] at hput1
    simp only [dIss] at hput1
    simp (disch := omega) only [go_sem, ↓reduceIte, e0, e1, e2, e7, e8, KeepK, g7, cX, hlen, h36, oX, hol, Int.toNat_natCast, List.length_range, no7, nr7, hput1]
    have hk2 := k.setObj ho ⟨true, t, (w.obj o).q⟩
    obtain ⟨X3, hX3⟩ : ∃ X3, X3 = upd K2 ro (some (.cells ((List.range m).flatMap fun x => dPc (set1 w.obj o ⟨true, t, (w.obj o).q⟩ x)) 36)) := ⟨_, rfl⟩
    obtain ⟨B3, hB3⟩ : ∃ B3, B3 = upd B ro (some (.cells ((List.range m).flatMap fun x => dPc (set1 w.obj o ⟨true, t, (w.obj o).q⟩ x)) 36)) := ⟨_, rfl⟩
    rw [← hX3, ← hB3] at hk2
    rw [← hX3]
    obtain ⟨w2, hw2⟩ : ∃ w2 : LW, w2 = { w with obj := set1 w.obj o ⟨true, t, (w.obj o).q⟩ } := ⟨_, rfl⟩
    have hh2 : w2.held = w.held := by rw [hw2]
    rw [← hw2] at hk2
    clear hput1 hX3 hB3 hol g7 hsm hmX hcg h35 h36 h37 hlen hlh hlr moX oX sX hX cX hsX k hac0 hbe
    have k := hk2
    have hsX := k.rows.sub
    have cX := hsX _ _ k.c
    have hX := hsX _ _ k.h
    have sX := hsX _ _ k.s
    have oX := hsX _ _ k.o
    have moX := hsX _ _ k.mo
    have hlr := k.lr
    have hlh := k.lh
    have hlen := wC_len (vb := .vslice ((List.range n).map fun t => dI (w2.base t)) n) (vh := .oslice 1 rh 0 n n) (vs := .oslice 1 rs 0 n n) (vc := .vslice ((List.range m).map fun o => dI (w2.ceil o)) m) (vo := .oslice 3 ro 0 m m) (vm := .oslice 1 rm 0 m m) hlr
    have h35 := wC_35 (vb := .vslice ((List.range n).map fun t => dI (w2.base t)) n) (vh := .oslice 1 rh 0 n n) (vs := .oslice 1 rs 0 n n) (vc := .vslice ((List.range m).map fun o => dI (w2.ceil o)) m) (vo := .oslice 3 ro 0 m m) (vm := .oslice 1 rm 0 m m) hlr
    have h36 := wC_36 (vb := .vslice ((List.range n).map fun t => dI (w2.base t)) n) (vh := .oslice 1 rh 0 n n) (vs := .oslice 1 rs 0 n n) (vc := .vslice ((List.range m).map fun o => dI (w2.ceil o)) m) (vo := .oslice 3 ro 0 m m) (vm := .oslice 1 rm 0 m m) hlr
    have h37 := wC_37 (vb := .vslice ((List.range n).map fun t => dI (w2.base t)) n) (vh := .oslice 1 rh 0 n n) (vs := .oslice 1 rs 0 n n) (vc := .vslice ((List.range m).map fun o => dI (w2.ceil o)) m) (vo := .oslice 3 ro 0 m m) (vm := .oslice 1 rm 0 m m) hlr
    obtain ⟨v, H1, hvt, hvv, hsB, hput⟩ := k.heldRow ht
    rw [hh2] at hvv
    refine dwp_draws (by kernel_rfl) (.take 0 (.take 1 (.take 2 (.take 3 (.take 4 (.take 5 (.take 6 (.take 7 (.take 8 (.take 9 (.take 10 (.take 11 (.take 12 (.go 13 [11, 8, 3] (.go 14 [3] (.take 15 (.go 16 [] .done))))))))))))))))) (by kernel_rfl) ?_
    simp (disch := omega) only [go_sem, ↓reduceIte, e0, e1, e2, KeepK, cX, hlen, wC_1, hX, hlh, hvt, Int.toNat_natCast]
    intro q0 hq0; dsimp only at hq0
    have nq0 : r ≠ q0 := none_ne hq0 cX
    have nq1 : rh ≠ q0 := none_ne hq0 hX
    simp (disch := omega) only [go_sem, ↓reduceIte, e0, e1, e2, KeepK, cX, hlen, wC_1, hX, hlh, hvt, nq0, nq1, Int.toNat_natCast]
    have kf := k.frame hq0 (.cells [dI o] 3)
    obtain ⟨v', H1', hvt', hvf, hsB', hput'⟩ := kf.heldRow ht
    rw [hvt] at hvt'
    cases hvt'
    rw [hh2] at hvf
    refine OwnV.append1 hvf (by rw [cL_len]; omega) fun v2 H2 hv2 => ?_
    have hv3 : OwnV 3 H1' (cL (w.held t ++ [o])) v2 H2 := by
      rw [show cL (w.held t ++ [o]) = cL (w.held t) ++ [(o : Int)] by simp [cL]]; exact hv2
    have hrows := hput' _ _ _ hv3
    have hc2 := hrows.sub _ _ kf.h
    have hc3 := hrows.sub _ _ kf.c
    have km := kf.setHeld ht hrows
    obtain ⟨c1, c2⟩ := hv2.cell1
    have hst : splice hv t [v2] = hv.set t v2 := splice_setD _ _ _ (by omega)
    simp (disch := omega) only [go_sem, ↓reduceIte, e0, e1, e2, KeepK, hc2, hlh, c1, c2, hst, Int.toNat_natCast]
    rw [hh2] at km
    have e3 : ({ w2 with held := set1 w.held t (w.held t ++ [o]) } : LW) = { w with obj := set1 w.obj o ⟨true, t, (w.obj o).q⟩, held := set1 w.held t (w.held t ++ [o]) } := by rw [hw2]
    rw [e3] at km
    have hput2 := put_w (G := G) (w := { w with obj := set1 w.obj o ⟨true, t, (w.obj o).q⟩, held := set1 w.held t (w.held t ++ [o]) }) (t := t) (f := true) hn hm ht (by
      show ∀ x ∈ set1 w.held t (w.held t ++ [o]) t, x < m
      rw [set1_same]
      intro x hx
      rcases List.mem_append.1 hx with hx | hx
      · exact hh x hx
      · rw [List.mem_singleton.1 hx]; exact ho) (by
      show (set1 w.held t (w.held t ++ [o]) t).length ≤ 100
      rw [set1_same, List.length_append, List.length_singleton]; omega) hr8 hact ⟨_, _, _, _, _, _, _, _, km⟩
    refine ⟨by rw [if_neg nq0, cX]; exact hc3, hput2.mono ?_⟩
    rintro _ K5 ⟨rfl, k5⟩
    simp (disch := omega) only [go_sem, ↓reduceIte]
    refine DFin.refl ⟨rfl, ?_⟩
    have hB0 : B3 q0 = none := Sub.lo (H := B3) (H' := X3) hsX hq0
    exact k5.lo (((Sub.refl H).new (k0.sub.lo h7) _).new (Sub.lo k.sub hB0) _)
end
end Go.Dl

-- LockFree: over.
namespace Go.Dl
open Go Go.Proofs
set_option maxRecDepth 100000
/-- The last one of a row is let go. -/
theorem OwnV.pop {e : TypeId} {H X : DHeap} {l : List Int} {x : Int} {v : DVal} (h : OwnV e H (l ++ [x]) v X) : ∃ q off lo cs, v = .oslice 1 q off (l.length + 1) lo ∧ X q = some (.cells cs e) ∧ off + (l.length + 1) ≤ cs.length ∧ l.length + 1 ≤ lo ∧ OwnV e H l (.oslice 1 q off l.length lo) X := by
  rcases h with ⟨h, _, _⟩ | ⟨q, pre, lo, rest, hq, rfl, hlo, rfl⟩
  · simp at h
  · rw [List.length_append, List.length_singleton] at hlo ⊢
    refine ⟨q, pre.length, lo, _, rfl, upd_same _ _ _, by simp, by omega, .inr ⟨q, pre, lo, dI x :: rest, hq, rfl, by simp; omega, by simp⟩⟩
section
variable {G : Nat → DVal} {H : DHeap} {n m r : Nat} {w : LW} {X : DHeap}
section
variable {rh rs ro rm : Nat} {rr : Nat → Nat} {vr hv : List DVal} {B : DHeap}
theorem WM.reframe (k : WM H n m r rh rs ro rm rr vr hv w B X) {q : Nat} (hq : H q ≠ none) (o : DObj) : WM (upd H q (some o)) n m r rh rs ro rm rr vr hv w (upd B q (some o)) (upd X q (some o)) := by
  have hBq : B q ≠ none := fun e => hq (Sub.lo k.sub e)
  have hne : ∀ b ∈ r :: rh :: rs :: ro :: rm :: (List.range m).map rr, b ≠ q := fun b hb e => hq (e ▸ k.nw b hb)
  have hB : ∀ {b x}, b ∈ r :: rh :: rs :: ro :: rm :: (List.range m).map rr → B b = some x → upd B q (some o) b = some x := fun hb h => by rw [upd_ne _ _ _ _ (hne _ hb)]; exact h
  exact {
    rows := k.rows.set hBq _, lr := k.lr, lh := k.lh, c := hB (by simp) k.c, h := hB (by simp) k.h, s := hB (by simp) k.s, o := hB (by simp) k.o, mo := hB (by simp) k.mo
    mr := fun o' ho' => hB (by simp only [List.mem_cons, List.mem_map, List.mem_range]; exact .inr (.inr (.inr (.inr (.inr ⟨o', ho', rfl⟩))))) (k.mr o' ho'), nd := k.nd
    nw := fun b hb => by rw [upd_ne _ _ _ _ (hne b hb)]; exact k.nw b hb
    sub := k.sub.both _ _ }
theorem WM.setModel (k : WM H n m r rh rs ro rm rr vr hv w B X) {o : Nat} (ho : o < m) (q : List (List Int)) (hq : q.length = (w.model o).length) :
    WM H n m r rh rs ro rm rr vr hv { w with model := set1 w.model o q } (upd B (rr o) (some (.cells (q.map dIs) 27))) (upd X (rr o) (some (.cells (q.map dIs) 27))) := by
  have hnd := k.nd
  simp only [List.nodup_cons, List.mem_cons, not_or, List.mem_map, List.mem_range, not_exists, not_and] at hnd
  obtain ⟨⟨n1, n2, n3, n4, n5⟩, ⟨n6, n7, n8, n9⟩, ⟨n10, n11, n12⟩, ⟨n13, n14⟩, n15, hrr⟩ := hnd
  have hinj : ∀ o', o' < m → o' ≠ o → rr o' ≠ rr o := fun o' ho' hne e => by
    have h1 : ((List.range m).map rr)[o']'(by simpa using ho') = ((List.range m).map rr)[o]'(by simpa using ho) := by simpa using e
    have := (List.getElem_inj (h₀ := by simpa using ho') (h₁ := by simpa using ho) hrr).1 h1
    exact hne this
  exact {
    rows := k.rows.set (by rw [k.mr o ho]; simp) _
    lr := k.lr
    lh := k.lh
    c := by rw [upd_ne _ _ _ _ (Ne.symm (n5 o ho))]; exact k.c
    h := by rw [upd_ne _ _ _ _ (Ne.symm (n9 o ho))]; exact k.h
    s := by rw [upd_ne _ _ _ _ (Ne.symm (n12 o ho))]; exact k.s
    o := by rw [upd_ne _ _ _ _ (Ne.symm (n14 o ho))]; exact k.o
    mo := by
      rw [upd_ne _ _ _ _ (Ne.symm (n15 o ho))]
      have : (List.range m).map (fun x => DVal.oslice 1 (rr x) 0 (set1 w.model o q x).length (set1 w.model o q x).length) = (List.range m).map fun x => .oslice 1 (rr x) 0 (w.model x).length (w.model x).length := List.map_congr_left fun x _ => by
        by_cases e : x = o
        · rw [e, set1_same, hq]
        · rw [set1_ne _ _ e]
      rw [this]; exact k.mo
    mr := fun o' ho' => by
      show upd B (rr o) _ (rr o') = some (.cells ((set1 w.model o q o').map dIs) 27)
      by_cases e : o' = o
      · rw [e, upd_same, set1_same]
      · rw [upd_ne _ _ _ _ (hinj o' ho' e), set1_ne _ _ e]; exact k.mr o' ho'
    nd := k.nd
    nw := k.nw
    sub := k.sub.up (k.nw (rr o) (by simp only [List.mem_cons, List.mem_map, List.mem_range]; exact .inr (.inr (.inr (.inr (.inr ⟨o, ho, rfl⟩)))))) _ }
end
set_option maxHeartbeats 8000000 in
theorem over_w {t o : Nat} {l : List Nat} {b : List Bool} (hn : n ≤ 8) (hm : m ≤ 4) (ht : t < n) (ho : o < m) (hh : ∀ o ∈ w.held t, o < m) (hl : w.held t = l ++ [o]) (hl4 : l.length < 100) (hr8 : ∀ p, p < 32 → (w.ready p).length ≤ 32)
    (hq : mayQ (w.model o) = true) (hq2 : (w.model o).length ≤ b.length) (hb : b.length ≤ 100)
    (ha1 : w.state t = 1 → 0 ≤ (({ w with held := set1 w.held t l } : LW)).act t ∧ (({ w with held := set1 w.held t l } : LW)).act t ≤ 31)
    (ha2 : 0 ≤ w.ceil o ∧ w.ceil o ≤ 31) (hun : ∀ p, openP (w.model o) b = some p → 0 ≤ p.2 ∧ p.2 < n ∧ 0 ≤ w.base p.2.toNat ∧ w.base p.2.toNat ≤ 31) (k0 : WAt H n m r w X) :
    DCalls Try.prog G 14 [.optr r 0, dI t, dI o, dPS (releaseL (w.model o) b).1, dH (releaseL (w.model o) b).2, dBs b] X fun e X' => e = .ret (.bool true) ∧ WAt H n m r (w.over t o (releaseL (w.model o) b).1 (releaseL (w.model o) b).2) X' := by
  obtain ⟨s, hs⟩ : ∃ s, s = (releaseL (w.model o) b).1 := ⟨_, rfl⟩
  obtain ⟨h, hhd⟩ : ∃ h, h = (releaseL (w.model o) b).2 := ⟨_, rfl⟩
  have hql := mayQ_len hq
  have hrow := fun l h => Nat.le_trans (mayQ_row (l := l) hq h) (show 32 ≤ 1099511627776 by decide)
  rw [← hs, ← hhd]
  refine dcalls_intro Try.func14 Try.call14 rfl (by kernel_rfl) ?_
  simp (disch := omega) only [go_sem, ↓reduceIte, dPS, dH, dBs]
  intro r9 h9; dsimp only at h9
  simp (disch := omega) only [go_sem, ↓reduceIte, dPS, dH, dBs]
  intro r10 h10; dsimp only at h10
  have k1 := (k0.frame h9 (.cells [.bool s.locked, dI s.owner, dIss s.q] 36)).frame h10 (.cells [.bool h.1, dI h.2.1, dI h.2.2] 48)
  simp (disch := omega) only [go_sem, ↓reduceIte]
  obtain ⟨X1, hX1⟩ : ∃ X1, X1 = upd (upd X r9 (some (.cells [.bool s.locked, dI s.owner, dIss s.q] 36))) r10 (some (.cells [.bool h.1, dI h.2.1, dI h.2.2] 48)) := ⟨_, rfl⟩
  have n910 : r9 ≠ r10 := none_ne h10 (upd_same _ _ _)
  simp only [dIss] at hX1 k1
  rw [← hX1] at k1 ⊢
  have k1s := k1
  obtain ⟨rh, rs, ro, rm, rr, vr, hv, B, k⟩ := k1
  have hsX := k.rows.sub
  have cX := hsX _ _ k.c
  have hX := hsX _ _ k.h
  have sX := hsX _ _ k.s
  have oX := hsX _ _ k.o
  have moX := hsX _ _ k.mo
  have hlr := k.lr
  have hlh := k.lh
  have hlen := wC_len (vb := .vslice ((List.range n).map fun t => dI (w.base t)) n) (vh := .oslice 1 rh 0 n n) (vs := .oslice 1 rs 0 n n) (vc := .vslice ((List.range m).map fun o => dI (w.ceil o)) m) (vo := .oslice 3 ro 0 m m) (vm := .oslice 1 rm 0 m m) hlr
  have h35 := wC_35 (vb := .vslice ((List.range n).map fun t => dI (w.base t)) n) (vh := .oslice 1 rh 0 n n) (vs := .oslice 1 rs 0 n n) (vc := .vslice ((List.range m).map fun o => dI (w.ceil o)) m) (vo := .oslice 3 ro 0 m m) (vm := .oslice 1 rm 0 m m) hlr
  have h36 := wC_36 (vb := .vslice ((List.range n).map fun t => dI (w.base t)) n) (vh := .oslice 1 rh 0 n n) (vs := .oslice 1 rs 0 n n) (vc := .vslice ((List.range m).map fun o => dI (w.ceil o)) m) (vo := .oslice 3 ro 0 m m) (vm := .oslice 1 rm 0 m m) hlr
  have h37 := wC_37 (vb := .vslice ((List.range n).map fun t => dI (w.base t)) n) (vh := .oslice 1 rh 0 n n) (vs := .oslice 1 rs 0 n n) (vc := .vslice ((List.range m).map fun o => dI (w.ceil o)) m) (vo := .oslice 3 ro 0 m m) (vm := .oslice 1 rm 0 m m) hlr
  obtain ⟨v, H1, hvt, hvv, hsB, hput⟩ := k.heldRow ht
  rw [hl, show cL (l ++ [o]) = cL l ++ [(o : Int)] by simp [cL]] at hvv
  obtain ⟨q, off, lo, cs, rfl, hqX, hqc, hlo, hpop⟩ := hvv.pop
  have hcl := cL_len l
  rw [hcl] at hqc hlo hpop
  have hnd := k.nd
  simp only [List.nodup_cons, List.mem_cons, not_or, List.mem_map, List.mem_range, not_exists, not_and] at hnd
  have nrh : r ≠ rh := hnd.1.1
  have hsb1 : (((l.length + 1 : Nat) : Int) - 1).toNat = l.length := by omega
  have hst : splice hv t [.oslice 1 q off l.length lo] = hv.set t (.oslice 1 q off l.length lo) := splice_setD _ _ _ (by omega)
  have hk2 := k.setHeld ht (hput l _ _ hpop)
  obtain ⟨X2, hX2⟩ : ∃ X2, X2 = upd X1 rh (some (.cells (hv.set t (.oslice 1 q off l.length lo)) 27)) := ⟨_, rfl⟩
  obtain ⟨w1, hw1⟩ : ∃ w1 : LW, w1 = { w with held := set1 w.held t l } := ⟨_, rfl⟩
  obtain ⟨B2, hB2⟩ : ∃ B2, B2 = upd B rh (some (.cells (hv.set t (.oslice 1 q off l.length lo)) 27)) := ⟨_, rfl⟩
  refine dwp_cut (fun e s' => e = .normal ∧ s'.env 0 = .optr r 0 ∧ s'.env 1 = dI t ∧ s'.env 2 = dI o ∧ s'.env 5 = dBs b ∧ s'.env 9 = .optr r9 0 ∧ s'.env 10 = .optr r10 0 ∧ s'.heap = X2) ?_ ?_
  · refine dwp_draws (by kernel_rfl) (.take 0 (.take 1 (.take 2 (.take 3 (.take 4 (.take 5 (.take 6 (.take 7 (.take 8 (.take 9 (.take 10 (.take 11 (.take 12 (.take 13 (.take 14 (.take 15 (.take 16 (.take 17 (.take 18 (.take 19 (.take 20 (.take 21 (.take 22 (.go 23 [] .done)))))))))))))))))))))))) (by kernel_rfl) ?_
    simp (disch := omega) only [go_sem, ↓reduceIte, cX, hlen, wC_1, hX, hlh, hvt, Int.toNat_natCast, hcl, hsb1, Nat.sub_zero, hst, nrh]
    exact ⟨rfl, hX2.symm⟩
  rintro _ ⟨env, X2'⟩ ⟨rfl, e0, e1, e2, e5, e9, e10, e11⟩
  dsimp only at e0 e1 e2 e5 e9 e10 e11
  subst e11
  rw [← hX2, ← hB2, ← hw1] at hk2
  rw [← hw1] at ha1
  have hh1 : w1.held t = l := by rw [hw1]; exact set1_same _ _ _
  have hst1 : w1.state = w.state := by rw [hw1]
  clear hst nrh hnd h35 h36 h37 hlen hlh hlr moX oX sX hX cX hsX hX2 hB2 hput hpop hvt hqX hqc hlo hsB k hsb1 hcl k1s
  -- the state behind the task's own going back
  obtain ⟨w2, hw2⟩ : ∃ w2 : LW, w2 = if w.state t = 1 then w1.put t (decide (l ≠ [])) else w1 := ⟨_, rfl⟩
  have w2f : w2.base = w.base ∧ w2.held = w1.held ∧ w2.ceil = w.ceil ∧ w2.obj = w.obj ∧ w2.model = w.model ∧ ∀ p, p < 32 → (w2.ready p).length ≤ 33 := by
    have hr9 : ∀ p, p < 32 → (w1.ready p).length ≤ 32 := by rw [hw1]; exact hr8
    rw [hw2]
    split
    · refine ⟨by rw [hw1]; rfl, rfl, by rw [hw1]; rfl, by rw [hw1]; rfl, by rw [hw1]; rfl, fun p hp => ?_⟩
      have hf := List.length_filter_le (fun x => !decide (x = t)) (w1.ready p)
      have := hr9 p hp
      show (set1 (w1.drop t).ready _ _ p).length ≤ 33
      rcases set1_cases (w1.drop t).ready ((w1.drop t).act t).toNat p (if decide (l ≠ []) = true then t :: (w1.drop t).ready ((w1.drop t).act t).toNat else (w1.drop t).ready ((w1.drop t).act t).toNat ++ [t]) with ⟨e, h⟩ | ⟨e, h⟩ <;> rw [h]
      · rw [← e]
        have hd : (w1.drop t).ready p = (w1.ready p).filter fun x => !decide (x = t) := rfl
        rw [hd]
        split <;> simp only [List.length_cons, List.length_append, List.length_nil] <;> omega
      · show ((w1.ready p).filter fun x => !decide (x = t)).length ≤ 33
        omega
    · exact ⟨by rw [hw1], rfl, by rw [hw1], by rw [hw1], by rw [hw1], fun p hp => by have := hr9 p hp; omega⟩
  have hw1s : w1.state t = w.state t := by rw [hst1]
  obtain ⟨Hf, hHf⟩ : ∃ Hf, Hf = upd (upd H r9 (some (.cells [.bool s.locked, dI s.owner, .vslice (s.q.map dIs) s.q.length] 36))) r10 (some (.cells [.bool h.1, dI h.2.1, dI h.2.2] 48)) := ⟨_, rfl⟩
  have hHs : Sub H Hf := by
    rw [hHf]
    exact ((Sub.refl H).new (k0.sub.lo h9) _).new (Sub.lo ((k0.frame h9 _).sub) h10) _
  have hf9 : Hf r9 = some (.cells [.bool s.locked, dI s.owner, .vslice (s.q.map dIs) s.q.length] 36) := by rw [hHf, upd_ne _ _ _ _ n910]; exact upd_same _ _ _
  have hf10 : Hf r10 = some (.cells [.bool h.1, dI h.2.1, dI h.2.2] 48) := by rw [hHf]; exact upd_same _ _ _
  rw [← hHf] at hk2
  have hk3 : WAt Hf n m r w1 X2' := ⟨_, _, _, _, _, _, _, _, hk2⟩
  obtain ⟨rh, rs, ro, rm, rr, vr, hv, B, k⟩ := hk3
  have hsX := k.rows.sub
  have cX := hsX _ _ k.c
  have hX := hsX _ _ k.h
  have sX := hsX _ _ k.s
  have oX := hsX _ _ k.o
  have moX := hsX _ _ k.mo
  have hlr := k.lr
  have hlh := k.lh
  have hlen := wC_len (vb := .vslice ((List.range n).map fun t => dI (w1.base t)) n) (vh := .oslice 1 rh 0 n n) (vs := .oslice 1 rs 0 n n) (vc := .vslice ((List.range m).map fun o => dI (w1.ceil o)) m) (vo := .oslice 3 ro 0 m m) (vm := .oslice 1 rm 0 m m) hlr
  have h35 := wC_35 (vb := .vslice ((List.range n).map fun t => dI (w1.base t)) n) (vh := .oslice 1 rh 0 n n) (vs := .oslice 1 rs 0 n n) (vc := .vslice ((List.range m).map fun o => dI (w1.ceil o)) m) (vo := .oslice 3 ro 0 m m) (vm := .oslice 1 rm 0 m m) hlr
  have h36 := wC_36 (vb := .vslice ((List.range n).map fun t => dI (w1.base t)) n) (vh := .oslice 1 rh 0 n n) (vs := .oslice 1 rs 0 n n) (vc := .vslice ((List.range m).map fun o => dI (w1.ceil o)) m) (vo := .oslice 3 ro 0 m m) (vm := .oslice 1 rm 0 m m) hlr
  have h37 := wC_37 (vb := .vslice ((List.range n).map fun t => dI (w1.base t)) n) (vh := .oslice 1 rh 0 n n) (vs := .oslice 1 rs 0 n n) (vc := .vslice ((List.range m).map fun o => dI (w1.ceil o)) m) (vo := .oslice 3 ro 0 m m) (vm := .oslice 1 rm 0 m m) hlr
  have hsg := dI_map_get w1.state ht
  obtain ⟨v, H1, hvt, hvv, hsB, hput⟩ := k.heldRow ht
  have vl := hvv.vlen
  rw [hh1, cL_len] at vl
  have hdec : decide ((0 : Int) < (l.length : Int)) = decide (l ≠ []) := by
    cases l <;> simp
  by_cases hs1 : w.state t = 1
  · rw [hw1s, hs1] at hsg
    simp (disch := omega) only [go_sem, ↓reduceIte, e0, e1, e2, e5, e9, e10, cX, hlen, wC_2, wC_1, sX, hsg, hX, hlh, hvt, vl, Int.toNat_natCast, List.length_range]
    rw [hdec]
    refine (put_w (w := w1) (f := decide (l ≠ [])) hn hm ht (by rw [hh1]; exact fun x hx => hh x (by rw [hl]; exact List.mem_append_left _ hx)) (by rw [hh1]; omega) (fun p hp => by rw [hw1]; have := hr8 p hp; show (w.ready p).length ≤ 100; omega) (ha1 hs1) ⟨_, _, _, _, _, _, _, _, k⟩).mono ?_
    rintro _ X3 ⟨rfl, k3⟩
    have k3 : WAt Hf n m r w2 X3 := by rw [hw2, if_pos hs1]; exact k3
    simp (disch := omega) only [go_sem, ↓reduceIte, e0, e1, e2, e5, e9, e10]
    clear hvt hvv vl hput hsB H1 hsX cX hX sX oX moX hlr hlh hlen h35 h36 h37 k
    obtain ⟨rh, rs, ro, rm, rr, vr, hv, B, k⟩ := k3
    have hsX := k.rows.sub
    have cX := hsX _ _ k.c
    have hX := hsX _ _ k.h
    have sX := hsX _ _ k.s
    have oX := hsX _ _ k.o
    have moX := hsX _ _ k.mo
    have hlr := k.lr
    have hlh := k.lh
    have hlen := wC_len (vb := .vslice ((List.range n).map fun t => dI (w2.base t)) n) (vh := .oslice 1 rh 0 n n) (vs := .oslice 1 rs 0 n n) (vc := .vslice ((List.range m).map fun o => dI (w2.ceil o)) m) (vo := .oslice 3 ro 0 m m) (vm := .oslice 1 rm 0 m m) hlr
    have h35 := wC_35 (vb := .vslice ((List.range n).map fun t => dI (w2.base t)) n) (vh := .oslice 1 rh 0 n n) (vs := .oslice 1 rs 0 n n) (vc := .vslice ((List.range m).map fun o => dI (w2.ceil o)) m) (vo := .oslice 3 ro 0 m m) (vm := .oslice 1 rm 0 m m) hlr
    have h36 := wC_36 (vb := .vslice ((List.range n).map fun t => dI (w2.base t)) n) (vh := .oslice 1 rh 0 n n) (vs := .oslice 1 rs 0 n n) (vc := .vslice ((List.range m).map fun o => dI (w2.ceil o)) m) (vo := .oslice 3 ro 0 m m) (vm := .oslice 1 rm 0 m m) hlr
    have h37 := wC_37 (vb := .vslice ((List.range n).map fun t => dI (w2.base t)) n) (vh := .oslice 1 rh 0 n n) (vs := .oslice 1 rs 0 n n) (vc := .vslice ((List.range m).map fun o => dI (w2.ceil o)) m) (vo := .oslice 3 ro 0 m m) (vm := .oslice 1 rm 0 m m) hlr
    have hmg : ((List.range m).map fun o => .oslice 1 (rr o) 0 (w2.model o).length (w2.model o).length)[o]? = some (DVal.oslice 1 (rr o) 0 (w2.model o).length (w2.model o).length) := by
      rw [List.getElem?_map, List.getElem?_range ho]; rfl
    have hmr := hsX _ _ (k.mr o ho)
    have hmo2 : w2.model o = w.model o := by rw [w2f.2.2.2.2.1]
    rw [hmo2] at hmg hmr
    intro r13 h13; dsimp only at h13
    have nr13 : r ≠ r13 := none_ne h13 cX
    have nm13 : rm ≠ r13 := none_ne h13 moX
    have nn13 : rr o ≠ r13 := none_ne h13 hmr
    have hf13 : Hf r13 = none := Sub.lo k.sub (Sub.lo (H := B) (H' := X3) hsX h13)
    have kf := k.frame h13 (.cells [.bool false, .int .i64 0, .int .i64 0] 48)
    simp (disch := omega) only [go_sem, ↓reduceIte, e0, e1, e2, e5, e9, e10, cX, hlen, h37, moX, hmg, nr13, nm13, nn13, Int.toNat_natCast, List.length_range]
    obtain ⟨X4, hX4⟩ : ∃ X4, X4 = upd X3 r13 (some (.cells [.bool false, .int .i64 0, .int .i64 0] 48)) := ⟨_, rfl⟩
    rw [← hX4] at kf ⊢
    obtain ⟨I, hI⟩ : ∃ I : Nat → (Nat → DVal) → DHeap → Prop, ∀ j env heap, I j env heap ↔ (env 0 = .optr r 0 ∧ env 1 = dI t ∧ env 2 = dI o ∧ env 5 = dBs b ∧ env 9 = .optr r9 0 ∧ env 10 = .optr r10 0 ∧ env 13 = .optr r13 0 ∧ env 69 = .oslice 1 (rr o) 0 (w.model o).length (w.model o).length ∧ env 70 = dI (w.model o).length ∧ env 71 = dI j ∧ j ≤ (w.model o).length ∧ (∀ p, openP (w.model o) b = some p → j ≤ p.1) ∧ heap = X4) := ⟨_, fun _ _ _ => Iff.rfl⟩
    refine DLoop.run I (fun j => (w.model o).length - j) 0 ((hI _ _ _).2 ?_) ?_
    · simp (disch := omega) only [go_sem, ↓reduceIte, e0, e1, e2, e5, e9, e10]
      (repeat' apply And.intro) <;> (try first | rfl | assumption | omega)
    · intro j env heap hj
      obtain ⟨e0, e1, e2, e5, e9, e10, e13, e69, e70, e71, hjl, hjp, hhp⟩ := (hI _ _ _).1 hj
      subst hhp
      have hmr4 := kf.rows.sub _ _ (kf.mr o ho)
      rw [hmo2] at hmr4
      by_cases hlt : j < (w.model o).length
      · have hlt' : (j : Int) < ((w.model o).length : Int) := by omega
        have hjg : ((w.model o).map dIs)[j]? = some (dIs (w.model o)[j]) := by rw [List.getElem?_map, List.getElem?_eq_getElem hlt]; rfl
        have hjb : (b.map DVal.bool)[j]? = some (.bool b[j]) := by rw [List.getElem?_map, List.getElem?_eq_getElem (by omega)]; rfl
        have hjbl : j < b.length := by omega
        have hwj : IntKind.i64.wrap ((j : Int) + 1) = ((j + 1 : Nat) : Int) := by rw [IntKind.wrap_i64]; omega
        have hmlen : ((w.model o).map dIs).length = (w.model o).length := List.length_map _
        by_cases hit : (w.model o)[j] ≠ [] ∧ b[j] = true
        · obtain ⟨hit1, hit2⟩ := hit
          obtain ⟨u, l', hul⟩ : ∃ u l', (w.model o)[j] = u :: l' := by
            cases hc : (w.model o)[j] with
            | nil => exact absurd hc hit1
            | cons u l' => exact ⟨u, l', rfl⟩
          have hgj : (w.model o).getD j [] = u :: l' := by rw [List.getD_eq_getElem?_getD, List.getElem?_eq_getElem hlt, hul]; rfl
          have hbj : b.getD j false = true := by rw [List.getD_eq_getElem?_getD, List.getElem?_eq_getElem hjbl, hit2]; rfl
          have hop : openP (w.model o) b = some (j, u) := by
            cases hp : openP (w.model o) b with
            | none => have := openP_no hp j hbj; rw [hgj] at this; cases this
            | some p =>
              have h1 := hjp p hp
              obtain ⟨l2, g1, -, g3⟩ := openP_first hp
              have h2 : p.1 = j := by
                rcases Nat.lt_or_ge j p.1 with h2 | h2
                · have := g3 j h2 hbj; rw [hgj] at this; cases this
                · omega
              rw [h2, List.getElem?_eq_getElem hlt, hul] at g1
              have h3 := Option.some.inj g1
              injection h3 with h4 h5
              rw [show p = (p.1, p.2) from rfl, h2, h4]
          have htk : (takeL (w.model o) (j : Nat)).1 = (w.model o).set j l' := by rw [takeL_eq hq, if_neg (by omega), hgj]
          have hrel : releaseL (w.model o) b = ((⟨true, u, (w.model o).set j l'⟩ : PS), true, u, (j : Int)) := by rw [releaseL, hop]; simp only [htk]
          rw [hrel] at hs hhd
          subst hs hhd
          have hj13 : (upd Hf r13 (some (.cells [.bool false, .int .i64 0, .int .i64 0] 48))) r13 ≠ none := by rw [upd_same]; simp
          have kg := (kf.reframe hj13 (.cells [.bool true, dI u, dI j] 48)).setModel ho ((w.model o).set j l') (by rw [hmo2, List.length_set])
          rw [hul] at hjg
          rw [hit2] at hjb
          have hpos : (0 : Int) < ((l'.length + 1 : Nat) : Int) := by omega
          have g13 := kf.rows.sub _ _ (kf.sub _ _ (upd_same Hf r13 _))
          have c4 := kf.rows.sub _ _ kf.c
          have mo4 := kf.rows.sub _ _ kf.mo
          have hspl : splice ((w.model o).map dIs) j [dIs l'] = ((w.model o).set j l').map dIs := by rw [splice_setD _ _ _ (by simpa using hlt), List.map_set]
          have hlr0 : l'.length ≤ 32 := by
            have := mayQ_row hq (List.getElem_mem hlt); rw [hul] at this; simp at this; omega
          have hcl := clone_spec G l' (upd heap r13 (some (.cells [.bool true, dI u, dI j] 48))) (by omega)
          simp (disch := omega) only [go_sem, ↓reduceIte, e0, e1, e2, e5, e9, e10, e13, e69, e70, e71, dBs, hlt', hmr4, hmlen, hjg, hjb, hjbl, hpos, g13, Int.toNat_natCast, List.map_cons, List.getElem?_cons_zero]
          refine dwp_draws (by kernel_rfl) (.take 0 (.take 1 (.take 2 (.take 3 (.take 4 (.take 5 (.take 6 (.take 7 (.take 8 (.take 9 (.go 10 [6, 3] (.take 11 (.go 12 [] .done))))))))))))) (by kernel_rfl) ?_
          simp (disch := omega) only [go_sem, ↓reduceIte, e0, e1, e2, e5, e9, e10, e13, e69, e70, e71, dBs, c4, hlen, h37, mo4, hmg, hmr4, nr13, nm13, nn13, hmlen, KeepK, Int.toNat_natCast, List.length_range, List.map_cons]
          refine hcl.mono ?_
          rintro _ K9 ⟨rfl, hK9⟩
          have n13 := nr13.symm
          simp only [dIs] at hspl
          rw [hK9]
          simp (disch := omega) only [go_sem, ↓reduceIte, e0, e1, e2, e5, e9, e10, e13, e69, e70, e71, dBs, c4, hlen, h37, mo4, hmg, hmr4, nr13, nm13, nn13, hmlen, KeepK, Int.toNat_natCast, List.length_range, List.map_cons, hspl, g13, n13]
          obtain ⟨X5, hX5⟩ : ∃ X5, X5 = upd (upd heap r13 (some (.cells [.bool true, dI u, dI j] 48))) (rr o) (some (.cells (((w.model o).set j l').map dIs) 27)) := ⟨_, rfl⟩
          rw [← hX5] at kg ⊢
          have k5 := kg
          have hF9 : (upd (upd Hf r13 (some (.cells [.bool false, .int .i64 0, .int .i64 0] 48))) r13 (some (.cells [.bool true, dI u, dI j] 48))) r9 = some (.cells [.bool true, dI u, .vslice (((w.model o).set j l').map dIs) ((w.model o).set j l').length] 36) := by
            rw [upd_upd, upd_ne _ _ _ _ (fun e => by rw [e, hf13] at hf9; cases hf9)]; exact hf9
          have hF10 : (upd (upd Hf r13 (some (.cells [.bool false, .int .i64 0, .int .i64 0] 48))) r13 (some (.cells [.bool true, dI u, dI j] 48))) r10 = some (.cells [.bool true, dI u, dI j] 48) := by
            rw [upd_upd, upd_ne _ _ _ _ (fun e => by rw [e, hf13] at hf10; cases hf10)]; exact hf10
          have hF13 : (upd (upd Hf r13 (some (.cells [.bool false, .int .i64 0, .int .i64 0] 48))) r13 (some (.cells [.bool true, dI u, dI j] 48))) r13 = some (.cells [.bool true, dI u, dI j] 48) := upd_same _ _ _
          have hHF : Sub H (upd (upd Hf r13 (some (.cells [.bool false, .int .i64 0, .int .i64 0] 48))) r13 (some (.cells [.bool true, dI u, dI j] 48))) := by
            rw [upd_upd]; exact hHs.trans ((Sub.refl Hf).new hf13 _)
          have hrow2 : ∀ y ∈ (w.model o).set j l', y.length ≤ 1099511627776 := fun y hy => by
            rcases List.mem_or_eq_of_mem_set hy with hy | rfl
            · exact hrow y hy
            · omega
          have hql2 : ((w.model o).set j l').length ≤ 8 := by rw [List.length_set]; exact hql
          obtain ⟨w3, hw3⟩ : ∃ w3 : LW, w3 = { w2 with model := set1 w2.model o ((w.model o).set j l') } := ⟨_, rfl⟩
          clear hsX cX hX sX oX moX hlr hlh hlen h35 h36 h37
          have hm3 : w3.model o = ((w.model o).set j l') := by rw [hw3]; exact set1_same _ _ _
          have ho3 : w3.obj = w.obj := by rw [hw3]; exact w2f.2.2.2.1
          rw [← hw3] at k5
          have k := k5
          have hsX := k.rows.sub
          have cX := hsX _ _ k.c
          have hX := hsX _ _ k.h
          have sX := hsX _ _ k.s
          have oX := hsX _ _ k.o
          have moX := hsX _ _ k.mo
          have hlr := k.lr
          have hlh := k.lh
          have hlen := wC_len (vb := .vslice ((List.range n).map fun t => dI (w3.base t)) n) (vh := .oslice 1 rh 0 n n) (vs := .oslice 1 rs 0 n n) (vc := .vslice ((List.range m).map fun o => dI (w3.ceil o)) m) (vo := .oslice 3 ro 0 m m) (vm := .oslice 1 rm 0 m m) hlr
          have h35 := wC_35 (vb := .vslice ((List.range n).map fun t => dI (w3.base t)) n) (vh := .oslice 1 rh 0 n n) (vs := .oslice 1 rs 0 n n) (vc := .vslice ((List.range m).map fun o => dI (w3.ceil o)) m) (vo := .oslice 3 ro 0 m m) (vm := .oslice 1 rm 0 m m) hlr
          have h36 := wC_36 (vb := .vslice ((List.range n).map fun t => dI (w3.base t)) n) (vh := .oslice 1 rh 0 n n) (vs := .oslice 1 rs 0 n n) (vc := .vslice ((List.range m).map fun o => dI (w3.ceil o)) m) (vo := .oslice 3 ro 0 m m) (vm := .oslice 1 rm 0 m m) hlr
          have h37 := wC_37 (vb := .vslice ((List.range n).map fun t => dI (w3.base t)) n) (vh := .oslice 1 rh 0 n n) (vs := .oslice 1 rs 0 n n) (vc := .vslice ((List.range m).map fun o => dI (w3.ceil o)) m) (vo := .oslice 3 ro 0 m m) (vm := .oslice 1 rm 0 m m) hlr
          have g9 := hsX _ _ (k.sub _ _ hF9)
          have g10 := hsX _ _ (k.sub _ _ hF10)
          have g13' := hsX _ _ (k.sub _ _ hF13)
          have hmg5 : ((List.range m).map fun o => .oslice 1 (rr o) 0 (w3.model o).length (w3.model o).length)[o]? = some (DVal.oslice 1 (rr o) 0 (w3.model o).length (w3.model o).length) := by
            rw [List.getElem?_map, List.getElem?_range ho]; rfl
          have hmr5 := hsX _ _ (k.mr o ho)
          rw [hm3] at hmg5 hmr5
          have hsm := same_w G (K := X5) (((w.model o).set j l')) (((w.model o).set j l')) (q := rr o) hql2 hql2 hrow2 hrow2 hmr5
          simp only [decide_true, dIss] at hsm
          refine dwp_draws (by kernel_rfl) (.take 0 (.take 1 (.take 2 (.take 3 (.take 4 (.take 5 (.take 6 (.take 7 (.take 8 (.take 9 (.take 10 (.take 11 (.take 12 (.take 13 (.take 14 (.take 15 (.take 16 (.take 17 (.take 18 (.take 19 (.take 20 (.take 21 (.take 22 (.take 23 (.take 24 (.take 25 (.take 26 (.go 27 [] (.take 28 (.take 29 .done)))))))))))))))))))))))))))))) (by kernel_rfl) ?_
          simp (disch := omega) only [go_sem, ↓reduceIte, e0, e1, e2, e5, e9, e10, e13, g9, g10, g13', cX, hlen, h37, moX, hmg5, KeepK, Int.toNat_natCast, List.length_range]
          refine hsm.mono ?_
          rintro _ K8 ⟨rfl, hK8⟩
          rw [hK8]
          have hol := objs_len w3.obj m
          have hput1 := objs_put w3.obj ho ⟨true, u, (w.model o).set j l'⟩
          have hd4 : dPc ⟨true, u, (w.model o).set j l'⟩ = [.bool true, dI u, .vslice ((((w.model o).set j l')).map dIs) (((w.model o).set j l')).length] := rfl
          rw [hd4] at hput1
          simp (disch := omega) only [go_sem, ↓reduceIte, e0, e1, e2, e5, e9, e10, e13, g9, g10, g13', KeepK]
          refine dwp_draws (by kernel_rfl) (.take 0 (.take 1 (.take 2 (.take 3 (.take 4 (.take 5 (.take 6 (.go 7 [] .done)))))))) (by kernel_rfl) ?_
          have nr9 : r ≠ r9 := fun e => by have := k.nw r (by simp); rw [e, hF9] at this; cases this
          have no9 : ro ≠ r9 := fun e => by have := k.nw ro (by simp); rw [e, hF9] at this; cases this
          have no10 : r10 ≠ ro := fun e => by have := k.nw ro (by simp); rw [← e, hF10] at this; cases this
          simp (disch := omega) only [go_sem, ↓reduceIte, e0, e1, e2, e5, e9, e10, e13, g9, g10, g13', cX, hlen, h36, oX, hol, hput1, KeepK, Int.toNat_natCast, List.length_range, no10]
          have k6 := k.setObj ho ⟨true, u, (w.model o).set j l'⟩
          obtain ⟨X6, hX6⟩ : ∃ X6, X6 = upd X5 ro (some (.cells ((List.range m).flatMap fun x => dPc (set1 w3.obj o ⟨true, u, (w.model o).set j l'⟩ x)) 36)) := ⟨_, rfl⟩
          rw [← hX6] at k6 ⊢
          obtain ⟨hu0, hun', hb0, hb31⟩ := hun _ hop
          dsimp only at hu0 hun' hb0 hb31
          obtain ⟨uN, rfl⟩ := Int.eq_ofNat_of_zero_le hu0
          rw [Int.toNat_natCast] at hb0 hb31
          have huN : uN < n := by omega
          obtain ⟨w4, hw4⟩ : ∃ w4 : LW, w4 = { w3 with obj := set1 w3.obj o ⟨true, uN, (w.model o).set j l'⟩ } := ⟨_, rfl⟩
          rw [← hw4] at k6
          clear hsX cX hX sX oX moX hlr hlh hlen h35 h36 h37 g9 g10 g13' hmr5 hmg5 k5 k
          have k := k6
          have hsX := k.rows.sub
          have cX := hsX _ _ k.c
          have hX := hsX _ _ k.h
          have sX := hsX _ _ k.s
          have oX := hsX _ _ k.o
          have moX := hsX _ _ k.mo
          have hlr := k.lr
          have hlh := k.lh
          have hlen := wC_len (vb := .vslice ((List.range n).map fun t => dI (w4.base t)) n) (vh := .oslice 1 rh 0 n n) (vs := .oslice 1 rs 0 n n) (vc := .vslice ((List.range m).map fun o => dI (w4.ceil o)) m) (vo := .oslice 3 ro 0 m m) (vm := .oslice 1 rm 0 m m) hlr
          have h35 := wC_35 (vb := .vslice ((List.range n).map fun t => dI (w4.base t)) n) (vh := .oslice 1 rh 0 n n) (vs := .oslice 1 rs 0 n n) (vc := .vslice ((List.range m).map fun o => dI (w4.ceil o)) m) (vo := .oslice 3 ro 0 m m) (vm := .oslice 1 rm 0 m m) hlr
          have h36 := wC_36 (vb := .vslice ((List.range n).map fun t => dI (w4.base t)) n) (vh := .oslice 1 rh 0 n n) (vs := .oslice 1 rs 0 n n) (vc := .vslice ((List.range m).map fun o => dI (w4.ceil o)) m) (vo := .oslice 3 ro 0 m m) (vm := .oslice 1 rm 0 m m) hlr
          have h37 := wC_37 (vb := .vslice ((List.range n).map fun t => dI (w4.base t)) n) (vh := .oslice 1 rh 0 n n) (vs := .oslice 1 rs 0 n n) (vc := .vslice ((List.range m).map fun o => dI (w4.ceil o)) m) (vo := .oslice 3 ro 0 m m) (vm := .oslice 1 rm 0 m m) hlr
          have g10 := hsX _ _ (k.sub _ _ hF10)
          obtain ⟨v, H1, hvt, hvv, hsB, hput⟩ := k.heldRow huN
          refine dwp_draws (by kernel_rfl) (.take 0 (.take 1 (.take 2 (.take 3 (.take 4 (.take 5 (.take 6 (.go 7 [5, 3] (.take 8 (.go 9 [] .done)))))))))) (by kernel_rfl) ?_
          simp (disch := omega) only [go_sem, ↓reduceIte, e0, e1, e2, e5, e9, e10, e13, g10, cX, hlen, wC_1, KeepK, Int.toNat_natCast]
          intro q1 hq1; dsimp only at hq1
          have nq1 : r ≠ q1 := none_ne hq1 cX
          have nh1 : rh ≠ q1 := none_ne hq1 hX
          have n101 : r10 ≠ q1 := none_ne hq1 g10
          have n10h : r10 ≠ rh := fun e => by have := k.nw rh (by simp); rw [← e, hF10] at this; cases this
          have nrh : r ≠ rh := fun e => by have := k.nd; simp [e] at this
          have hst : splice hv uN [.oslice 1 q1 0 1 1] = hv.set uN (.oslice 1 q1 0 1 1) := splice_setD _ _ _ (by omega)
          have hnew : OwnV 3 X6 (cL [o]) (.oslice 1 q1 0 1 1) (upd X6 q1 (some (.cells [dI o] 3))) := .inr ⟨q1, [], 1, [], hq1, rfl, rfl, rfl⟩
          obtain ⟨H2, hd1, hd2⟩ := hvv.drop hnew
          have k7 := k.setHeld huN (hput [o] _ _ hd1)
          simp (disch := omega) only [go_sem, ↓reduceIte, e0, e1, e2, e5, e9, e10, e13, g10, cX, hlen, wC_1, hX, hlh, KeepK, Int.toNat_natCast, nq1, nh1, n101, n10h, nrh, hst]
          have hw5r : ∀ p, p < 32 → (w4.ready p).length ≤ 100 := fun p hp => by
            have := w2f.2.2.2.2.2 p hp
            rw [hw4, hw3]; show (w2.ready p).length ≤ 100; omega
          have hact5 : ({ w4 with held := set1 w4.held uN [o] } : LW).act uN = max (w.base uN) (w.ceil o) := by
            show activeL (w4.base uN) ((set1 w4.held uN [o] uN).map w4.ceil) = _
            have e1 : w4.base = w.base := by rw [hw4, hw3]; exact w2f.1
            have e2 : w4.ceil = w.ceil := by rw [hw4, hw3]; exact w2f.2.2.1
            rw [set1_same, e1, e2]; rfl
          refine (DCalls.preSub (Sub.both hd2 rh _) (put_w (w := { w4 with held := set1 w4.held uN [o] }) (f := true) hn hm huN (by
            show ∀ x ∈ set1 w4.held uN [o] uN, x < m
            rw [set1_same]; intro x hx; rw [List.mem_singleton.1 hx]; exact ho) (by
            show (set1 w4.held uN [o] uN).length ≤ 100
            rw [set1_same]; simp) hw5r (by rw [hact5]; omega) ⟨_, _, _, _, _, _, _, _, k7⟩)).mono ?_
          rintro _ X9 ⟨rfl, k9⟩
          simp (disch := omega) only [go_sem, ↓reduceIte]
          refine DFin.refl ⟨rfl, ?_⟩
          have hdl : (w.held t).dropLast = l := by rw [hl, List.dropLast_concat]
          have eq : w.over t o ⟨true, uN, (w.model o).set j l'⟩ (true, (uN : Int), (j : Int)) = ({ w4 with held := set1 w4.held uN [o] } : LW).put uN true := by
            rw [hw4, hw3, hw2, hw1]
            unfold LW.over
            simp only [hdl, if_true, Int.toNat_natCast]
          rw [eq]
          exact k9.lo hHF
        · have hnp : ∀ p, openP (w.model o) b = some p → j + 1 ≤ p.1 := fun p hp => by
            have h1 := hjp p hp
            rcases Nat.lt_or_ge j p.1 with h2 | h2
            · omega
            · have h3 : p.1 = j := by omega
              obtain ⟨l', g1, g2, -⟩ := openP_first hp
              rw [h3, List.getElem?_eq_getElem hlt] at g1
              rw [h3, List.getD_eq_getElem?_getD, List.getElem?_eq_getElem hjbl] at g2
              exact absurd ⟨by rw [Option.some.inj g1]; simp, by simpa using g2⟩ hit
          obtain ⟨qj, hqj⟩ : ∃ qj, qj = (w.model o)[j] := ⟨_, rfl⟩
          obtain ⟨bj, hbj⟩ : ∃ bj, bj = b[j] := ⟨_, rfl⟩
          rw [← hqj] at hjg hit
          rw [← hbj] at hjb hit
          cases qj with
          | nil =>
            simp (disch := omega) only [go_sem, ↓reduceIte, e0, e1, e2, e5, e9, e10, e13, e69, e70, e71, dBs, hlt', hmr4, hmlen, hjg, Int.toNat_natCast]
            refine ⟨j + 1, _, GhostS.refl _, (hI _ _ _).2 ?_, by omega⟩
            simp (disch := omega) only [go_sem, ↓reduceIte, e0, e1, e2, e5, e9, e10, e13, e69, e70, e71, dBs, hwj]
            (repeat' apply And.intro) <;> (try first | rfl | assumption | omega)
          | cons u l' =>
            have hbf : bj = false := by
              cases bj with
              | false => rfl
              | true => exact absurd ⟨by simp, rfl⟩ hit
            subst hbf
            have hpos : (0 : Int) < ((l'.length + 1 : Nat) : Int) := by omega
            simp (disch := omega) only [go_sem, ↓reduceIte, e0, e1, e2, e5, e9, e10, e13, e69, e70, e71, dBs, hlt', hmr4, hmlen, hjg, hjb, hjbl, hpos, Int.toNat_natCast]
            refine ⟨j + 1, _, GhostS.refl _, (hI _ _ _).2 ?_, by omega⟩
            simp (disch := omega) only [go_sem, ↓reduceIte, e0, e1, e2, e5, e9, e10, e13, e69, e70, e71, dBs, hwj]
            (repeat' apply And.intro) <;> (try first | rfl | assumption | omega)
      · have hnone : openP (w.model o) b = none := by
          cases hp : openP (w.model o) b with
          | none => rfl
          | some p =>
            have h1 := hjp p hp
            obtain ⟨l', g1, -⟩ := openP_first hp
            have := (List.getElem?_eq_some_iff.1 g1).1
            omega
        have hrel : releaseL (w.model o) b = ((⟨false, 0, w.model o⟩ : PS), false, (0 : Int), (0 : Int)) := by rw [releaseL, hnone]
        rw [hrel] at hs hhd
        subst hs hhd
        have hlt' : ¬ (j : Int) < ((w.model o).length : Int) := by omega
        have hw2m : ({ w2 with model := set1 w2.model o (w.model o) } : LW) = w2 := by
          have : set1 w2.model o (w.model o) = w2.model := by
            funext x
            by_cases e : x = o
            · rw [e, set1_same, hmo2]
            · rw [set1_ne _ _ e]
          rw [this]
        have k5 := kf
        rw [← hw2m] at k5
        have hF9 : (upd Hf r13 (some (.cells [.bool false, .int .i64 0, .int .i64 0] 48))) r9 = some (.cells [.bool false, dI 0, .vslice ((w.model o).map dIs) (w.model o).length] 36) := by
          rw [upd_ne _ _ _ _ (fun e => by rw [e, hf13] at hf9; cases hf9)]; exact hf9
        have hF10 : (upd Hf r13 (some (.cells [.bool false, .int .i64 0, .int .i64 0] 48))) r10 = some (.cells [.bool false, dI 0, dI 0] 48) := by
          rw [upd_ne _ _ _ _ (fun e => by rw [e, hf13] at hf10; cases hf10)]; exact hf10
        have hF13 : (upd Hf r13 (some (.cells [.bool false, .int .i64 0, .int .i64 0] 48))) r13 = some (.cells [.bool false, dI 0, dI 0] 48) := upd_same _ _ _
        have hHF : Sub H (upd Hf r13 (some (.cells [.bool false, .int .i64 0, .int .i64 0] 48))) := hHs.trans ((Sub.refl Hf).new hf13 _)
        obtain ⟨X5, hX5⟩ : ∃ X5, X5 = heap := ⟨_, rfl⟩
        rw [← hX5] at k5
        simp (disch := omega) only [go_sem, ↓reduceIte, e0, e1, e2, e5, e9, e10, e13, e69, e70, e71, hlt']
        rw [← hX5]
        obtain ⟨w3, hw3⟩ : ∃ w3 : LW, w3 = { w2 with model := set1 w2.model o (w.model o) } := ⟨_, rfl⟩
        clear hsX cX hX sX oX moX hlr hlh hlen h35 h36 h37
        have hm3 : w3.model o = (w.model o) := by rw [hw3]; exact set1_same _ _ _
        have ho3 : w3.obj = w.obj := by rw [hw3]; exact w2f.2.2.2.1
        rw [← hw3] at k5
        have k := k5
        have hsX := k.rows.sub
        have cX := hsX _ _ k.c
        have hX := hsX _ _ k.h
        have sX := hsX _ _ k.s
        have oX := hsX _ _ k.o
        have moX := hsX _ _ k.mo
        have hlr := k.lr
        have hlh := k.lh
        have hlen := wC_len (vb := .vslice ((List.range n).map fun t => dI (w3.base t)) n) (vh := .oslice 1 rh 0 n n) (vs := .oslice 1 rs 0 n n) (vc := .vslice ((List.range m).map fun o => dI (w3.ceil o)) m) (vo := .oslice 3 ro 0 m m) (vm := .oslice 1 rm 0 m m) hlr
        have h35 := wC_35 (vb := .vslice ((List.range n).map fun t => dI (w3.base t)) n) (vh := .oslice 1 rh 0 n n) (vs := .oslice 1 rs 0 n n) (vc := .vslice ((List.range m).map fun o => dI (w3.ceil o)) m) (vo := .oslice 3 ro 0 m m) (vm := .oslice 1 rm 0 m m) hlr
        have h36 := wC_36 (vb := .vslice ((List.range n).map fun t => dI (w3.base t)) n) (vh := .oslice 1 rh 0 n n) (vs := .oslice 1 rs 0 n n) (vc := .vslice ((List.range m).map fun o => dI (w3.ceil o)) m) (vo := .oslice 3 ro 0 m m) (vm := .oslice 1 rm 0 m m) hlr
        have h37 := wC_37 (vb := .vslice ((List.range n).map fun t => dI (w3.base t)) n) (vh := .oslice 1 rh 0 n n) (vs := .oslice 1 rs 0 n n) (vc := .vslice ((List.range m).map fun o => dI (w3.ceil o)) m) (vo := .oslice 3 ro 0 m m) (vm := .oslice 1 rm 0 m m) hlr
        have g9 := hsX _ _ (k.sub _ _ hF9)
        have g10 := hsX _ _ (k.sub _ _ hF10)
        have g13' := hsX _ _ (k.sub _ _ hF13)
        have hmg5 : ((List.range m).map fun o => .oslice 1 (rr o) 0 (w3.model o).length (w3.model o).length)[o]? = some (DVal.oslice 1 (rr o) 0 (w3.model o).length (w3.model o).length) := by
          rw [List.getElem?_map, List.getElem?_range ho]; rfl
        have hmr5 := hsX _ _ (k.mr o ho)
        rw [hm3] at hmg5 hmr5
        have hsm := same_w G (K := X5) ((w.model o)) ((w.model o)) (q := rr o) hql hql hrow hrow hmr5
        simp only [decide_true, dIss] at hsm
        refine dwp_draws (by kernel_rfl) (.take 0 (.take 1 (.take 2 (.take 3 (.take 4 (.take 5 (.take 6 (.take 7 (.take 8 (.take 9 (.take 10 (.take 11 (.take 12 (.take 13 (.take 14 (.take 15 (.take 16 (.take 17 (.take 18 (.take 19 (.take 20 (.take 21 (.take 22 (.take 23 (.take 24 (.take 25 (.take 26 (.go 27 [] (.take 28 (.take 29 .done)))))))))))))))))))))))))))))) (by kernel_rfl) ?_
        simp (disch := omega) only [go_sem, ↓reduceIte, e0, e1, e2, e5, e9, e10, e13, g9, g10, g13', cX, hlen, h37, moX, hmg5, KeepK, Int.toNat_natCast, List.length_range]
        refine hsm.mono ?_
        rintro _ K8 ⟨rfl, hK8⟩
        rw [hK8]
        have hol := objs_len w3.obj m
        have hput1 := objs_put w3.obj ho ⟨false, 0, w.model o⟩
        have hd4 : dPc ⟨false, 0, w.model o⟩ = [.bool false, dI 0, .vslice (((w.model o)).map dIs) ((w.model o)).length] := rfl
        rw [hd4] at hput1
        simp (disch := omega) only [go_sem, ↓reduceIte, e0, e1, e2, e5, e9, e10, e13, g9, g10, g13', KeepK]
        refine dwp_draws (by kernel_rfl) (.take 0 (.take 1 (.take 2 (.take 3 (.take 4 (.take 5 (.take 6 (.go 7 [] .done)))))))) (by kernel_rfl) ?_
        have nr9 : r ≠ r9 := fun e => by have := k.nw r (by simp); rw [e, hF9] at this; cases this
        have no9 : ro ≠ r9 := fun e => by have := k.nw ro (by simp); rw [e, hF9] at this; cases this
        have no10 : r10 ≠ ro := fun e => by have := k.nw ro (by simp); rw [← e, hF10] at this; cases this
        simp (disch := omega) only [go_sem, ↓reduceIte, e0, e1, e2, e5, e9, e10, e13, g9, g10, g13', cX, hlen, h36, oX, hol, hput1, KeepK, Int.toNat_natCast, List.length_range, no10]
        have k6 := k.setObj ho ⟨false, 0, w.model o⟩
        obtain ⟨X6, hX6⟩ : ∃ X6, X6 = upd X5 ro (some (.cells ((List.range m).flatMap fun x => dPc (set1 w3.obj o ⟨false, 0, w.model o⟩ x)) 36)) := ⟨_, rfl⟩
        rw [← hX6] at k6 ⊢
        refine DFin.refl ⟨rfl, ?_⟩
        have hdl : (w.held t).dropLast = l := by rw [hl, List.dropLast_concat]
        have eq : w.over t o ⟨false, 0, w.model o⟩ (false, 0, 0) = { w3 with obj := set1 w3.obj o ⟨false, 0, w.model o⟩ } := by
          rw [hw3, hw2, hw1]
          unfold LW.over
          simp only [hdl, Bool.false_eq_true, if_false]
        rw [eq]
        exact WAt.lo ⟨_, _, _, _, _, _, _, _, k6⟩ hHF
  · rw [hw1s] at hsg
    simp (disch := omega) only [go_sem, ↓reduceIte, e0, e1, e2, e5, e9, e10, cX, hlen, wC_2, wC_1, sX, hsg, hX, hlh, hvt, vl, Int.toNat_natCast, List.length_range]
    have k3 : WAt Hf n m r w2 X2' := by rw [hw2, if_neg hs1]; exact ⟨_, _, _, _, _, _, _, _, k⟩
    obtain ⟨X3, hX3⟩ : ∃ X3, X3 = X2' := ⟨_, rfl⟩
    rw [← hX3] at k3 ⊢
    clear hvt hvv vl hput hsB H1 hsX cX hX sX oX moX hlr hlh hlen h35 h36 h37 k
    obtain ⟨rh, rs, ro, rm, rr, vr, hv, B, k⟩ := k3
    have hsX := k.rows.sub
    have cX := hsX _ _ k.c
    have hX := hsX _ _ k.h
    have sX := hsX _ _ k.s
    have oX := hsX _ _ k.o
    have moX := hsX _ _ k.mo
    have hlr := k.lr
    have hlh := k.lh
    have hlen := wC_len (vb := .vslice ((List.range n).map fun t => dI (w2.base t)) n) (vh := .oslice 1 rh 0 n n) (vs := .oslice 1 rs 0 n n) (vc := .vslice ((List.range m).map fun o => dI (w2.ceil o)) m) (vo := .oslice 3 ro 0 m m) (vm := .oslice 1 rm 0 m m) hlr
    have h35 := wC_35 (vb := .vslice ((List.range n).map fun t => dI (w2.base t)) n) (vh := .oslice 1 rh 0 n n) (vs := .oslice 1 rs 0 n n) (vc := .vslice ((List.range m).map fun o => dI (w2.ceil o)) m) (vo := .oslice 3 ro 0 m m) (vm := .oslice 1 rm 0 m m) hlr
    have h36 := wC_36 (vb := .vslice ((List.range n).map fun t => dI (w2.base t)) n) (vh := .oslice 1 rh 0 n n) (vs := .oslice 1 rs 0 n n) (vc := .vslice ((List.range m).map fun o => dI (w2.ceil o)) m) (vo := .oslice 3 ro 0 m m) (vm := .oslice 1 rm 0 m m) hlr
    have h37 := wC_37 (vb := .vslice ((List.range n).map fun t => dI (w2.base t)) n) (vh := .oslice 1 rh 0 n n) (vs := .oslice 1 rs 0 n n) (vc := .vslice ((List.range m).map fun o => dI (w2.ceil o)) m) (vo := .oslice 3 ro 0 m m) (vm := .oslice 1 rm 0 m m) hlr
    have hmg : ((List.range m).map fun o => .oslice 1 (rr o) 0 (w2.model o).length (w2.model o).length)[o]? = some (DVal.oslice 1 (rr o) 0 (w2.model o).length (w2.model o).length) := by
      rw [List.getElem?_map, List.getElem?_range ho]; rfl
    have hmr := hsX _ _ (k.mr o ho)
    have hmo2 : w2.model o = w.model o := by rw [w2f.2.2.2.2.1]
    rw [hmo2] at hmg hmr
    intro r13 h13; dsimp only at h13
    have nr13 : r ≠ r13 := none_ne h13 cX
    have nm13 : rm ≠ r13 := none_ne h13 moX
    have nn13 : rr o ≠ r13 := none_ne h13 hmr
    have hf13 : Hf r13 = none := Sub.lo k.sub (Sub.lo (H := B) (H' := X3) hsX h13)
    have kf := k.frame h13 (.cells [.bool false, .int .i64 0, .int .i64 0] 48)
    simp (disch := omega) only [go_sem, ↓reduceIte, e0, e1, e2, e5, e9, e10, cX, hlen, h37, moX, hmg, nr13, nm13, nn13, Int.toNat_natCast, List.length_range]
    obtain ⟨X4, hX4⟩ : ∃ X4, X4 = upd X3 r13 (some (.cells [.bool false, .int .i64 0, .int .i64 0] 48)) := ⟨_, rfl⟩
    rw [← hX4] at kf ⊢
    obtain ⟨I, hI⟩ : ∃ I : Nat → (Nat → DVal) → DHeap → Prop, ∀ j env heap, I j env heap ↔ (env 0 = .optr r 0 ∧ env 1 = dI t ∧ env 2 = dI o ∧ env 5 = dBs b ∧ env 9 = .optr r9 0 ∧ env 10 = .optr r10 0 ∧ env 13 = .optr r13 0 ∧ env 69 = .oslice 1 (rr o) 0 (w.model o).length (w.model o).length ∧ env 70 = dI (w.model o).length ∧ env 71 = dI j ∧ j ≤ (w.model o).length ∧ (∀ p, openP (w.model o) b = some p → j ≤ p.1) ∧ heap = X4) := ⟨_, fun _ _ _ => Iff.rfl⟩
    refine DLoop.run I (fun j => (w.model o).length - j) 0 ((hI _ _ _).2 ?_) ?_
    · simp (disch := omega) only [go_sem, ↓reduceIte, e0, e1, e2, e5, e9, e10]
      (repeat' apply And.intro) <;> (try first | rfl | assumption | omega)
    · intro j env heap hj
      obtain ⟨e0, e1, e2, e5, e9, e10, e13, e69, e70, e71, hjl, hjp, hhp⟩ := (hI _ _ _).1 hj
      subst hhp
      have hmr4 := kf.rows.sub _ _ (kf.mr o ho)
      rw [hmo2] at hmr4
      by_cases hlt : j < (w.model o).length
      · have hlt' : (j : Int) < ((w.model o).length : Int) := by omega
        have hjg : ((w.model o).map dIs)[j]? = some (dIs (w.model o)[j]) := by rw [List.getElem?_map, List.getElem?_eq_getElem hlt]; rfl
        have hjb : (b.map DVal.bool)[j]? = some (.bool b[j]) := by rw [List.getElem?_map, List.getElem?_eq_getElem (by omega)]; rfl
        have hjbl : j < b.length := by omega
        have hwj : IntKind.i64.wrap ((j : Int) + 1) = ((j + 1 : Nat) : Int) := by rw [IntKind.wrap_i64]; omega
        have hmlen : ((w.model o).map dIs).length = (w.model o).length := List.length_map _
        by_cases hit : (w.model o)[j] ≠ [] ∧ b[j] = true
        · obtain ⟨hit1, hit2⟩ := hit
          obtain ⟨u, l', hul⟩ : ∃ u l', (w.model o)[j] = u :: l' := by
            cases hc : (w.model o)[j] with
            | nil => exact absurd hc hit1
            | cons u l' => exact ⟨u, l', rfl⟩
          have hgj : (w.model o).getD j [] = u :: l' := by rw [List.getD_eq_getElem?_getD, List.getElem?_eq_getElem hlt, hul]; rfl
          have hbj : b.getD j false = true := by rw [List.getD_eq_getElem?_getD, List.getElem?_eq_getElem hjbl, hit2]; rfl
          have hop : openP (w.model o) b = some (j, u) := by
            cases hp : openP (w.model o) b with
            | none => have := openP_no hp j hbj; rw [hgj] at this; cases this
            | some p =>
              have h1 := hjp p hp
              obtain ⟨l2, g1, -, g3⟩ := openP_first hp
              have h2 : p.1 = j := by
                rcases Nat.lt_or_ge j p.1 with h2 | h2
                · have := g3 j h2 hbj; rw [hgj] at this; cases this
                · omega
              rw [h2, List.getElem?_eq_getElem hlt, hul] at g1
              have h3 := Option.some.inj g1
              injection h3 with h4 h5
              rw [show p = (p.1, p.2) from rfl, h2, h4]
          have htk : (takeL (w.model o) (j : Nat)).1 = (w.model o).set j l' := by rw [takeL_eq hq, if_neg (by omega), hgj]
          have hrel : releaseL (w.model o) b = ((⟨true, u, (w.model o).set j l'⟩ : PS), true, u, (j : Int)) := by rw [releaseL, hop]; simp only [htk]
          rw [hrel] at hs hhd
          subst hs hhd
          have hj13 : (upd Hf r13 (some (.cells [.bool false, .int .i64 0, .int .i64 0] 48))) r13 ≠ none := by rw [upd_same]; simp
          have kg := (kf.reframe hj13 (.cells [.bool true, dI u, dI j] 48)).setModel ho ((w.model o).set j l') (by rw [hmo2, List.length_set])
          rw [hul] at hjg
          rw [hit2] at hjb
          have hpos : (0 : Int) < ((l'.length + 1 : Nat) : Int) := by omega
          have g13 := kf.rows.sub _ _ (kf.sub _ _ (upd_same Hf r13 _))
          have c4 := kf.rows.sub _ _ kf.c
          have mo4 := kf.rows.sub _ _ kf.mo
          have hspl : splice ((w.model o).map dIs) j [dIs l'] = ((w.model o).set j l').map dIs := by rw [splice_setD _ _ _ (by simpa using hlt), List.map_set]
          have hlr0 : l'.length ≤ 32 := by
            have := mayQ_row hq (List.getElem_mem hlt); rw [hul] at this; simp at this; omega
          have hcl := clone_spec G l' (upd heap r13 (some (.cells [.bool true, dI u, dI j] 48))) (by omega)
          simp (disch := omega) only [go_sem, ↓reduceIte, e0, e1, e2, e5, e9, e10, e13, e69, e70, e71, dBs, hlt', hmr4, hmlen, hjg, hjb, hjbl, hpos, g13, Int.toNat_natCast, List.map_cons, List.getElem?_cons_zero]
          refine dwp_draws (by kernel_rfl) (.take 0 (.take 1 (.take 2 (.take 3 (.take 4 (.take 5 (.take 6 (.take 7 (.take 8 (.take 9 (.go 10 [6, 3] (.take 11 (.go 12 [] .done))))))))))))) (by kernel_rfl) ?_
          simp (disch := omega) only [go_sem, ↓reduceIte, e0, e1, e2, e5, e9, e10, e13, e69, e70, e71, dBs, c4, hlen, h37, mo4, hmg, hmr4, nr13, nm13, nn13, hmlen, KeepK, Int.toNat_natCast, List.length_range, List.map_cons]
          refine hcl.mono ?_
          rintro _ K9 ⟨rfl, hK9⟩
          have n13 := nr13.symm
          simp only [dIs] at hspl
          rw [hK9]
          simp (disch := omega) only [go_sem, ↓reduceIte, e0, e1, e2, e5, e9, e10, e13, e69, e70, e71, dBs, c4, hlen, h37, mo4, hmg, hmr4, nr13, nm13, nn13, hmlen, KeepK, Int.toNat_natCast, List.length_range, List.map_cons, hspl, g13, n13]
          obtain ⟨X5, hX5⟩ : ∃ X5, X5 = upd (upd heap r13 (some (.cells [.bool true, dI u, dI j] 48))) (rr o) (some (.cells (((w.model o).set j l').map dIs) 27)) := ⟨_, rfl⟩
          rw [← hX5] at kg ⊢
          have k5 := kg
          have hF9 : (upd (upd Hf r13 (some (.cells [.bool false, .int .i64 0, .int .i64 0] 48))) r13 (some (.cells [.bool true, dI u, dI j] 48))) r9 = some (.cells [.bool true, dI u, .vslice (((w.model o).set j l').map dIs) ((w.model o).set j l').length] 36) := by
            rw [upd_upd, upd_ne _ _ _ _ (fun e => by rw [e, hf13] at hf9; cases hf9)]; exact hf9
          have hF10 : (upd (upd Hf r13 (some (.cells [.bool false, .int .i64 0, .int .i64 0] 48))) r13 (some (.cells [.bool true, dI u, dI j] 48))) r10 = some (.cells [.bool true, dI u, dI j] 48) := by
            rw [upd_upd, upd_ne _ _ _ _ (fun e => by rw [e, hf13] at hf10; cases hf10)]; exact hf10
          have hF13 : (upd (upd Hf r13 (some (.cells [.bool false, .int .i64 0, .int .i64 0] 48))) r13 (some (.cells [.bool true, dI u, dI j] 48))) r13 = some (.cells [.bool true, dI u, dI j] 48) := upd_same _ _ _
          have hHF : Sub H (upd (upd Hf r13 (some (.cells [.bool false, .int .i64 0, .int .i64 0] 48))) r13 (some (.cells [.bool true, dI u, dI j] 48))) := by
            rw [upd_upd]; exact hHs.trans ((Sub.refl Hf).new hf13 _)
          have hrow2 : ∀ y ∈ (w.model o).set j l', y.length ≤ 1099511627776 := fun y hy => by
            rcases List.mem_or_eq_of_mem_set hy with hy | rfl
            · exact hrow y hy
            · omega
          have hql2 : ((w.model o).set j l').length ≤ 8 := by rw [List.length_set]; exact hql
          obtain ⟨w3, hw3⟩ : ∃ w3 : LW, w3 = { w2 with model := set1 w2.model o ((w.model o).set j l') } := ⟨_, rfl⟩
          clear hsX cX hX sX oX moX hlr hlh hlen h35 h36 h37
          have hm3 : w3.model o = ((w.model o).set j l') := by rw [hw3]; exact set1_same _ _ _
          have ho3 : w3.obj = w.obj := by rw [hw3]; exact w2f.2.2.2.1
          rw [← hw3] at k5
          have k := k5
          have hsX := k.rows.sub
          have cX := hsX _ _ k.c
          have hX := hsX _ _ k.h
          have sX := hsX _ _ k.s
          have oX := hsX _ _ k.o
          have moX := hsX _ _ k.mo
          have hlr := k.lr
          have hlh := k.lh
          have hlen := wC_len (vb := .vslice ((List.range n).map fun t => dI (w3.base t)) n) (vh := .oslice 1 rh 0 n n) (vs := .oslice 1 rs 0 n n) (vc := .vslice ((List.range m).map fun o => dI (w3.ceil o)) m) (vo := .oslice 3 ro 0 m m) (vm := .oslice 1 rm 0 m m) hlr
          have h35 := wC_35 (vb := .vslice ((List.range n).map fun t => dI (w3.base t)) n) (vh := .oslice 1 rh 0 n n) (vs := .oslice 1 rs 0 n n) (vc := .vslice ((List.range m).map fun o => dI (w3.ceil o)) m) (vo := .oslice 3 ro 0 m m) (vm := .oslice 1 rm 0 m m) hlr
          have h36 := wC_36 (vb := .vslice ((List.range n).map fun t => dI (w3.base t)) n) (vh := .oslice 1 rh 0 n n) (vs := .oslice 1 rs 0 n n) (vc := .vslice ((List.range m).map fun o => dI (w3.ceil o)) m) (vo := .oslice 3 ro 0 m m) (vm := .oslice 1 rm 0 m m) hlr
          have h37 := wC_37 (vb := .vslice ((List.range n).map fun t => dI (w3.base t)) n) (vh := .oslice 1 rh 0 n n) (vs := .oslice 1 rs 0 n n) (vc := .vslice ((List.range m).map fun o => dI (w3.ceil o)) m) (vo := .oslice 3 ro 0 m m) (vm := .oslice 1 rm 0 m m) hlr
          have g9 := hsX _ _ (k.sub _ _ hF9)
          have g10 := hsX _ _ (k.sub _ _ hF10)
          have g13' := hsX _ _ (k.sub _ _ hF13)
          have hmg5 : ((List.range m).map fun o => .oslice 1 (rr o) 0 (w3.model o).length (w3.model o).length)[o]? = some (DVal.oslice 1 (rr o) 0 (w3.model o).length (w3.model o).length) := by
            rw [List.getElem?_map, List.getElem?_range ho]; rfl
          have hmr5 := hsX _ _ (k.mr o ho)
          rw [hm3] at hmg5 hmr5
          have hsm := same_w G (K := X5) (((w.model o).set j l')) (((w.model o).set j l')) (q := rr o) hql2 hql2 hrow2 hrow2 hmr5
          simp only [decide_true, dIss] at hsm
          refine dwp_draws (by kernel_rfl) (.take 0 (.take 1 (.take 2 (.take 3 (.take 4 (.take 5 (.take 6 (.take 7 (.take 8 (.take 9 (.take 10 (.take 11 (.take 12 (.take 13 (.take 14 (.take 15 (.take 16 (.take 17 (.take 18 (.take 19 (.take 20 (.take 21 (.take 22 (.take 23 (.take 24 (.take 25 (.take 26 (.go 27 [] (.take 28 (.take 29 .done)))))))))))))))))))))))))))))) (by kernel_rfl) ?_
          simp (disch := omega) only [go_sem, ↓reduceIte, e0, e1, e2, e5, e9, e10, e13, g9, g10, g13', cX, hlen, h37, moX, hmg5, KeepK, Int.toNat_natCast, List.length_range]
          refine hsm.mono ?_
          rintro _ K8 ⟨rfl, hK8⟩
          rw [hK8]
          have hol := objs_len w3.obj m
          have hput1 := objs_put w3.obj ho ⟨true, u, (w.model o).set j l'⟩
          have hd4 : dPc ⟨true, u, (w.model o).set j l'⟩ = [.bool true, dI u, .vslice ((((w.model o).set j l')).map dIs) (((w.model o).set j l')).length] := rfl
          rw [hd4] at hput1
          simp (disch := omega) only [go_sem, ↓reduceIte, e0, e1, e2, e5, e9, e10, e13, g9, g10, g13', KeepK]
          refine dwp_draws (by kernel_rfl) (.take 0 (.take 1 (.take 2 (.take 3 (.take 4 (.take 5 (.take 6 (.go 7 [] .done)))))))) (by kernel_rfl) ?_
          have nr9 : r ≠ r9 := fun e => by have := k.nw r (by simp); rw [e, hF9] at this; cases this
          have no9 : ro ≠ r9 := fun e => by have := k.nw ro (by simp); rw [e, hF9] at this; cases this
          have no10 : r10 ≠ ro := fun e => by have := k.nw ro (by simp); rw [← e, hF10] at this; cases this
          simp (disch := omega) only [go_sem, ↓reduceIte, e0, e1, e2, e5, e9, e10, e13, g9, g10, g13', cX, hlen, h36, oX, hol, hput1, KeepK, Int.toNat_natCast, List.length_range, no10]
          have k6 := k.setObj ho ⟨true, u, (w.model o).set j l'⟩
          obtain ⟨X6, hX6⟩ : ∃ X6, X6 = upd X5 ro (some (.cells ((List.range m).flatMap fun x => dPc (set1 w3.obj o ⟨true, u, (w.model o).set j l'⟩ x)) 36)) := ⟨_, rfl⟩
          rw [← hX6] at k6 ⊢
          obtain ⟨hu0, hun', hb0, hb31⟩ := hun _ hop
          dsimp only at hu0 hun' hb0 hb31
          obtain ⟨uN, rfl⟩ := Int.eq_ofNat_of_zero_le hu0
          rw [Int.toNat_natCast] at hb0 hb31
          have huN : uN < n := by omega
          obtain ⟨w4, hw4⟩ : ∃ w4 : LW, w4 = { w3 with obj := set1 w3.obj o ⟨true, uN, (w.model o).set j l'⟩ } := ⟨_, rfl⟩
          rw [← hw4] at k6
          clear hsX cX hX sX oX moX hlr hlh hlen h35 h36 h37 g9 g10 g13' hmr5 hmg5 k5 k
          have k := k6
          have hsX := k.rows.sub
          have cX := hsX _ _ k.c
          have hX := hsX _ _ k.h
          have sX := hsX _ _ k.s
          have oX := hsX _ _ k.o
          have moX := hsX _ _ k.mo
          have hlr := k.lr
          have hlh := k.lh
          have hlen := wC_len (vb := .vslice ((List.range n).map fun t => dI (w4.base t)) n) (vh := .oslice 1 rh 0 n n) (vs := .oslice 1 rs 0 n n) (vc := .vslice ((List.range m).map fun o => dI (w4.ceil o)) m) (vo := .oslice 3 ro 0 m m) (vm := .oslice 1 rm 0 m m) hlr
          have h35 := wC_35 (vb := .vslice ((List.range n).map fun t => dI (w4.base t)) n) (vh := .oslice 1 rh 0 n n) (vs := .oslice 1 rs 0 n n) (vc := .vslice ((List.range m).map fun o => dI (w4.ceil o)) m) (vo := .oslice 3 ro 0 m m) (vm := .oslice 1 rm 0 m m) hlr
          have h36 := wC_36 (vb := .vslice ((List.range n).map fun t => dI (w4.base t)) n) (vh := .oslice 1 rh 0 n n) (vs := .oslice 1 rs 0 n n) (vc := .vslice ((List.range m).map fun o => dI (w4.ceil o)) m) (vo := .oslice 3 ro 0 m m) (vm := .oslice 1 rm 0 m m) hlr
          have h37 := wC_37 (vb := .vslice ((List.range n).map fun t => dI (w4.base t)) n) (vh := .oslice 1 rh 0 n n) (vs := .oslice 1 rs 0 n n) (vc := .vslice ((List.range m).map fun o => dI (w4.ceil o)) m) (vo := .oslice 3 ro 0 m m) (vm := .oslice 1 rm 0 m m) hlr
          have g10 := hsX _ _ (k.sub _ _ hF10)
          obtain ⟨v, H1, hvt, hvv, hsB, hput⟩ := k.heldRow huN
          refine dwp_draws (by kernel_rfl) (.take 0 (.take 1 (.take 2 (.take 3 (.take 4 (.take 5 (.take 6 (.go 7 [5, 3] (.take 8 (.go 9 [] .done)))))))))) (by kernel_rfl) ?_
          simp (disch := omega) only [go_sem, ↓reduceIte, e0, e1, e2, e5, e9, e10, e13, g10, cX, hlen, wC_1, KeepK, Int.toNat_natCast]
          intro q1 hq1; dsimp only at hq1
          have nq1 : r ≠ q1 := none_ne hq1 cX
          have nh1 : rh ≠ q1 := none_ne hq1 hX
          have n101 : r10 ≠ q1 := none_ne hq1 g10
          have n10h : r10 ≠ rh := fun e => by have := k.nw rh (by simp); rw [← e, hF10] at this; cases this
          have nrh : r ≠ rh := fun e => by have := k.nd; simp [e] at this
          have hst : splice hv uN [.oslice 1 q1 0 1 1] = hv.set uN (.oslice 1 q1 0 1 1) := splice_setD _ _ _ (by omega)
          have hnew : OwnV 3 X6 (cL [o]) (.oslice 1 q1 0 1 1) (upd X6 q1 (some (.cells [dI o] 3))) := .inr ⟨q1, [], 1, [], hq1, rfl, rfl, rfl⟩
          obtain ⟨H2, hd1, hd2⟩ := hvv.drop hnew
          have k7 := k.setHeld huN (hput [o] _ _ hd1)
          simp (disch := omega) only [go_sem, ↓reduceIte, e0, e1, e2, e5, e9, e10, e13, g10, cX, hlen, wC_1, hX, hlh, KeepK, Int.toNat_natCast, nq1, nh1, n101, n10h, nrh, hst]
          have hw5r : ∀ p, p < 32 → (w4.ready p).length ≤ 100 := fun p hp => by
            have := w2f.2.2.2.2.2 p hp
            rw [hw4, hw3]; show (w2.ready p).length ≤ 100; omega
          have hact5 : ({ w4 with held := set1 w4.held uN [o] } : LW).act uN = max (w.base uN) (w.ceil o) := by
            show activeL (w4.base uN) ((set1 w4.held uN [o] uN).map w4.ceil) = _
            have e1 : w4.base = w.base := by rw [hw4, hw3]; exact w2f.1
            have e2 : w4.ceil = w.ceil := by rw [hw4, hw3]; exact w2f.2.2.1
            rw [set1_same, e1, e2]; rfl
          refine (DCalls.preSub (Sub.both hd2 rh _) (put_w (w := { w4 with held := set1 w4.held uN [o] }) (f := true) hn hm huN (by
            show ∀ x ∈ set1 w4.held uN [o] uN, x < m
            rw [set1_same]; intro x hx; rw [List.mem_singleton.1 hx]; exact ho) (by
            show (set1 w4.held uN [o] uN).length ≤ 100
            rw [set1_same]; simp) hw5r (by rw [hact5]; omega) ⟨_, _, _, _, _, _, _, _, k7⟩)).mono ?_
          rintro _ X9 ⟨rfl, k9⟩
          simp (disch := omega) only [go_sem, ↓reduceIte]
          refine DFin.refl ⟨rfl, ?_⟩
          have hdl : (w.held t).dropLast = l := by rw [hl, List.dropLast_concat]
          have eq : w.over t o ⟨true, uN, (w.model o).set j l'⟩ (true, (uN : Int), (j : Int)) = ({ w4 with held := set1 w4.held uN [o] } : LW).put uN true := by
            rw [hw4, hw3, hw2, hw1]
            unfold LW.over
            simp only [hdl, if_true, Int.toNat_natCast]
          rw [eq]
          exact k9.lo hHF
        · have hnp : ∀ p, openP (w.model o) b = some p → j + 1 ≤ p.1 := fun p hp => by
            have h1 := hjp p hp
            rcases Nat.lt_or_ge j p.1 with h2 | h2
            · omega
            · have h3 : p.1 = j := by omega
              obtain ⟨l', g1, g2, -⟩ := openP_first hp
              rw [h3, List.getElem?_eq_getElem hlt] at g1
              rw [h3, List.getD_eq_getElem?_getD, List.getElem?_eq_getElem hjbl] at g2
              exact absurd ⟨by rw [Option.some.inj g1]; simp, by simpa using g2⟩ hit
          obtain ⟨qj, hqj⟩ : ∃ qj, qj = (w.model o)[j] := ⟨_, rfl⟩
          obtain ⟨bj, hbj⟩ : ∃ bj, bj = b[j] := ⟨_, rfl⟩
          rw [← hqj] at hjg hit
          rw [← hbj] at hjb hit
          cases qj with
          | nil =>
            simp (disch := omega) only [go_sem, ↓reduceIte, e0, e1, e2, e5, e9, e10, e13, e69, e70, e71, dBs, hlt', hmr4, hmlen, hjg, Int.toNat_natCast]
            refine ⟨j + 1, _, GhostS.refl _, (hI _ _ _).2 ?_, by omega⟩
            simp (disch := omega) only [go_sem, ↓reduceIte, e0, e1, e2, e5, e9, e10, e13, e69, e70, e71, dBs, hwj]
            (repeat' apply And.intro) <;> (try first | rfl | assumption | omega)
          | cons u l' =>
            have hbf : bj = false := by
              cases bj with
              | false => rfl
              | true => exact absurd ⟨by simp, rfl⟩ hit
            subst hbf
            have hpos : (0 : Int) < ((l'.length + 1 : Nat) : Int) := by omega
            simp (disch := omega) only [go_sem, ↓reduceIte, e0, e1, e2, e5, e9, e10, e13, e69, e70, e71, dBs, hlt', hmr4, hmlen, hjg, hjb, hjbl, hpos, Int.toNat_natCast]
            refine ⟨j + 1, _, GhostS.refl _, (hI _ _ _).2 ?_, by omega⟩
            simp (disch := omega) only [go_sem, ↓reduceIte, e0, e1, e2, e5, e9, e10, e13, e69, e70, e71, dBs, hwj]
            (repeat' apply And.intro) <;> (try first | rfl | assumption | omega)
      · have hnone : openP (w.model o) b = none := by
          cases hp : openP (w.model o) b with
          | none => rfl
          | some p =>
            have h1 := hjp p hp
            obtain ⟨l', g1, -⟩ := openP_first hp
            have := (List.getElem?_eq_some_iff.1 g1).1
            omega
        have hrel : releaseL (w.model o) b = ((⟨false, 0, w.model o⟩ : PS), false, (0 : Int), (0 : Int)) := by rw [releaseL, hnone]
        rw [hrel] at hs hhd
        subst hs hhd
        have hlt' : ¬ (j : Int) < ((w.model o).length : Int) := by omega
        have hw2m : ({ w2 with model := set1 w2.model o (w.model o) } : LW) = w2 := by
          have : set1 w2.model o (w.model o) = w2.model := by
            funext x
            by_cases e : x = o
            · rw [e, set1_same, hmo2]
            · rw [set1_ne _ _ e]
          rw [this]
        have k5 := kf
        rw [← hw2m] at k5
        have hF9 : (upd Hf r13 (some (.cells [.bool false, .int .i64 0, .int .i64 0] 48))) r9 = some (.cells [.bool false, dI 0, .vslice ((w.model o).map dIs) (w.model o).length] 36) := by
          rw [upd_ne _ _ _ _ (fun e => by rw [e, hf13] at hf9; cases hf9)]; exact hf9
        have hF10 : (upd Hf r13 (some (.cells [.bool false, .int .i64 0, .int .i64 0] 48))) r10 = some (.cells [.bool false, dI 0, dI 0] 48) := by
          rw [upd_ne _ _ _ _ (fun e => by rw [e, hf13] at hf10; cases hf10)]; exact hf10
        have hF13 : (upd Hf r13 (some (.cells [.bool false, .int .i64 0, .int .i64 0] 48))) r13 = some (.cells [.bool false, dI 0, dI 0] 48) := upd_same _ _ _
        have hHF : Sub H (upd Hf r13 (some (.cells [.bool false, .int .i64 0, .int .i64 0] 48))) := hHs.trans ((Sub.refl Hf).new hf13 _)
        obtain ⟨X5, hX5⟩ : ∃ X5, X5 = heap := ⟨_, rfl⟩
        rw [← hX5] at k5
        simp (disch := omega) only [go_sem, ↓reduceIte, e0, e1, e2, e5, e9, e10, e13, e69, e70, e71, hlt']
        rw [← hX5]
        obtain ⟨w3, hw3⟩ : ∃ w3 : LW, w3 = { w2 with model := set1 w2.model o (w.model o) } := ⟨_, rfl⟩
        clear hsX cX hX sX oX moX hlr hlh hlen h35 h36 h37
        have hm3 : w3.model o = (w.model o) := by rw [hw3]; exact set1_same _ _ _
        have ho3 : w3.obj = w.obj := by rw [hw3]; exact w2f.2.2.2.1
        rw [← hw3] at k5
        have k := k5
        have hsX := k.rows.sub
        have cX := hsX _ _ k.c
        have hX := hsX _ _ k.h
        have sX := hsX _ _ k.s
        have oX := hsX _ _ k.o
        have moX := hsX _ _ k.mo
        have hlr := k.lr
        have hlh := k.lh
        have hlen := wC_len (vb := .vslice ((List.range n).map fun t => dI (w3.base t)) n) (vh := .oslice 1 rh 0 n n) (vs := .oslice 1 rs 0 n n) (vc := .vslice ((List.range m).map fun o => dI (w3.ceil o)) m) (vo := .oslice 3 ro 0 m m) (vm := .oslice 1 rm 0 m m) hlr
        have h35 := wC_35 (vb := .vslice ((List.range n).map fun t => dI (w3.base t)) n) (vh := .oslice 1 rh 0 n n) (vs := .oslice 1 rs 0 n n) (vc := .vslice ((List.range m).map fun o => dI (w3.ceil o)) m) (vo := .oslice 3 ro 0 m m) (vm := .oslice 1 rm 0 m m) hlr
        have h36 := wC_36 (vb := .vslice ((List.range n).map fun t => dI (w3.base t)) n) (vh := .oslice 1 rh 0 n n) (vs := .oslice 1 rs 0 n n) (vc := .vslice ((List.range m).map fun o => dI (w3.ceil o)) m) (vo := .oslice 3 ro 0 m m) (vm := .oslice 1 rm 0 m m) hlr
        have h37 := wC_37 (vb := .vslice ((List.range n).map fun t => dI (w3.base t)) n) (vh := .oslice 1 rh 0 n n) (vs := .oslice 1 rs 0 n n) (vc := .vslice ((List.range m).map fun o => dI (w3.ceil o)) m) (vo := .oslice 3 ro 0 m m) (vm := .oslice 1 rm 0 m m) hlr
        have g9 := hsX _ _ (k.sub _ _ hF9)
        have g10 := hsX _ _ (k.sub _ _ hF10)
        have g13' := hsX _ _ (k.sub _ _ hF13)
        have hmg5 : ((List.range m).map fun o => .oslice 1 (rr o) 0 (w3.model o).length (w3.model o).length)[o]? = some (DVal.oslice 1 (rr o) 0 (w3.model o).length (w3.model o).length) := by
          rw [List.getElem?_map, List.getElem?_range ho]; rfl
        have hmr5 := hsX _ _ (k.mr o ho)
        rw [hm3] at hmg5 hmr5
        have hsm := same_w G (K := X5) ((w.model o)) ((w.model o)) (q := rr o) hql hql hrow hrow hmr5
        simp only [decide_true, dIss] at hsm
        refine dwp_draws (by kernel_rfl) (.take 0 (.take 1 (.take 2 (.take 3 (.take 4 (.take 5 (.take 6 (.take 7 (.take 8 (.take 9 (.take 10 (.take 11 (.take 12 (.take 13 (.take 14 (.take 15 (.take 16 (.take 17 (.take 18 (.take 19 (.take 20 (.take 21 (.take 22 (.take 23 (.take 24 (.take 25 (.take 26 (.go 27 [] (.take 28 (.take 29 .done)))))))))))))))))))))))))))))) (by kernel_rfl) ?_
        simp (disch := omega) only [go_sem, ↓reduceIte, e0, e1, e2, e5, e9, e10, e13, g9, g10, g13', cX, hlen, h37, moX, hmg5, KeepK, Int.toNat_natCast, List.length_range]
        refine hsm.mono ?_
        rintro _ K8 ⟨rfl, hK8⟩
        rw [hK8]
        have hol := objs_len w3.obj m
        have hput1 := objs_put w3.obj ho ⟨false, 0, w.model o⟩
        have hd4 : dPc ⟨false, 0, w.model o⟩ = [.bool false, dI 0, .vslice (((w.model o)).map dIs) ((w.model o)).length] := rfl
        rw [hd4] at hput1
        simp (disch := omega) only [go_sem, ↓reduceIte, e0, e1, e2, e5, e9, e10, e13, g9, g10, g13', KeepK]
        refine dwp_draws (by kernel_rfl) (.take 0 (.take 1 (.take 2 (.take 3 (.take 4 (.take 5 (.take 6 (.go 7 [] .done)))))))) (by kernel_rfl) ?_
        have nr9 : r ≠ r9 := fun e => by have := k.nw r (by simp); rw [e, hF9] at this; cases this
        have no9 : ro ≠ r9 := fun e => by have := k.nw ro (by simp); rw [e, hF9] at this; cases this
        have no10 : r10 ≠ ro := fun e => by have := k.nw ro (by simp); rw [← e, hF10] at this; cases this
        simp (disch := omega) only [go_sem, ↓reduceIte, e0, e1, e2, e5, e9, e10, e13, g9, g10, g13', cX, hlen, h36, oX, hol, hput1, KeepK, Int.toNat_natCast, List.length_range, no10]
        have k6 := k.setObj ho ⟨false, 0, w.model o⟩
        obtain ⟨X6, hX6⟩ : ∃ X6, X6 = upd X5 ro (some (.cells ((List.range m).flatMap fun x => dPc (set1 w3.obj o ⟨false, 0, w.model o⟩ x)) 36)) := ⟨_, rfl⟩
        rw [← hX6] at k6 ⊢
        refine DFin.refl ⟨rfl, ?_⟩
        have hdl : (w.held t).dropLast = l := by rw [hl, List.dropLast_concat]
        have eq : w.over t o ⟨false, 0, w.model o⟩ (false, 0, 0) = { w3 with obj := set1 w3.obj o ⟨false, 0, w.model o⟩ } := by
          rw [hw3, hw2, hw1]
          unfold LW.over
          simp only [hdl, Bool.false_eq_true, if_false]
        rw [eq]
        exact WAt.lo ⟨_, _, _, _, _, _, _, _, k6⟩ hHF
end
end Go.Dl

-- LockFree: what its main loop calls.
namespace Go.Dl
open Go Go.Proofs
set_option maxRecDepth 100000
theorem WAt.unframe {H : DHeap} {n m r : Nat} {w : LW} {X : DHeap} {q : Nat} {o : DObj} (h : WAt (upd H q (some o)) n m r w X) (hq : H q = none) : WAt H n m r w (upd X q none) ∧ X q = some o := by
  obtain ⟨rh, rs, ro, rm, rr, vr, hv, B, k⟩ := h
  have hBq : B q = some o := k.sub _ _ (upd_same _ _ _)
  have hB : B = upd (upd B q none) q (some o) := by rw [upd_upd]; exact (upd_self hBq).symm
  have hr := k.rows
  rw [hB] at hr
  obtain ⟨H2, h1, h2, h3⟩ := hr.unframe (upd_same _ _ _)
  have hX : upd X q none = H2 := by rw [h2]; exact upd_none_self h3 _
  have hne : ∀ b ∈ r :: rh :: rs :: ro :: rm :: (List.range m).map rr, b ≠ q := fun b hb e => by have := k.nw b hb; rw [e, upd_same] at this; cases this
  have lk : ∀ {b x}, b ∈ r :: rh :: rs :: ro :: rm :: (List.range m).map rr → B b = some x → upd B q none b = some x := fun hb hx => by rw [upd_ne _ _ _ _ (hne _ hb)]; exact hx
  refine ⟨⟨rh, rs, ro, rm, rr, vr, hv, upd B q none, {
    rows := by rw [hX]; exact h1
    lr := k.lr, lh := k.lh, c := lk (by simp) k.c, h := lk (by simp) k.h, s := lk (by simp) k.s, o := lk (by simp) k.o, mo := lk (by simp) k.mo
    mr := fun o' ho' => lk (by simp only [List.mem_cons, List.mem_map, List.mem_range]; exact .inr (.inr (.inr (.inr (.inr ⟨o', ho', rfl⟩))))) (k.mr o' ho'), nd := k.nd
    nw := fun b hb => by have := k.nw b hb; rw [upd_ne _ _ _ _ (hne b hb)] at this; exact this
    sub := fun b x hb => by
      have hbq : b ≠ q := fun e => by rw [e, hq] at hb; cases hb
      rw [upd_ne _ _ _ _ hbq]; exact k.sub b x (by rw [upd_ne _ _ _ _ hbq]; exact hb) }⟩, k.rows.sub _ _ hBq⟩
section
variable {G : Nat → DVal}
theorem boolJ {H : DHeap} {q : Nat} {b : List Bool} (hq : H q = some (.cells (b.map .bool) 4)) : OwnJ h0 4 1 b.length (b.map .bool) (.oslice 1 q 0 b.length b.length) H := .inr ⟨q, rfl, by simp, rfl, hq, fun b o hb => by cases hb⟩
theorem end_lent (G : Nat → DVal) (s : PS) (b : List Bool) (H : DHeap) {q : Nat} (hq : H q = some (.cells (b.map .bool) 4)) (h1 : s.q.length ≤ 1099511627776) (hl : ∀ l ∈ s.q, l.length ≤ 1099511627776) (ho : b.length ≤ 1099511627776) :
    DCalls Try.prog G 13 [dPS s, .oslice 1 q 0 b.length b.length] H (DRet (dR2 (endL s b).1 (endL s b).2.1 (endL s b).2.2) H) := by
  have h := (end_spec G s b h0 h1 hl ho).frame (H := H) ((boolJ hq).lend2 (dPS s)) (fun x X ⟨u, hx, hu, hX⟩ => ⟨_, hx, by simp [loose, loose.looses, hu.loose1, dI, dH], hX⟩)
  refine DCalls.ghost h fun x H' ⟨X, ⟨u, hx, hu, _⟩, hd, hH⟩ => ⟨_, _, H, hx, ?_, rfl, rfl⟩
  have hu2 := hu.lift hd
  rw [over_h0, ← hH] at hu2
  exact ((hu2.ghost.agg1 (pre := [.bool (endL s b).1.locked, dI (endL s b).1.owner]) (post := []) rfl rfl).tuple1 (pre := []) (post := [dH (endL s b).2.1, dI (endL s b).2.2]) rfl rfl)
theorem wait_lent (G : Nat → DVal) (s : PS) (e : Nat) (b : List Bool) (H : DHeap) {q : Nat} (hq : H q = some (.cells (b.map .bool) 4)) (h1 : s.q.length ≤ 1099511627776) (hl : ∀ l ∈ s.q, l.length ≤ 1099511627776) (ho : b.length ≤ 1099511627776) :
    DCalls Try.prog G 15 [dPS s, dI e, .oslice 1 q 0 b.length b.length] H (DRet (dR2 (waitL s e b).1 (waitL s e b).2.1 (waitL s e b).2.2) H) := by
  have h := (wait_spec G s e b h0 h1 hl ho).frame (H := H) (args := [dPS s, dI e, .oslice 1 q 0 b.length b.length]) (fun w vs hw hv => by
    have h2 := (boolJ hq).lend2 (dI e)
    simp only [RelL] at hv ⊢
    obtain ⟨y, ys, rfl, g1, g2⟩ := hv
    have g3 := h2 w ys hw (by simp only [RelL]; exact g2)
    simp only [RelL] at g3
    exact ⟨y, _, rfl, Rel.lasts (lasts_h0 H w) _ _ g1, g3⟩) (fun x X ⟨u, hx, hu, hX⟩ => ⟨_, hx, by simp [loose, loose.looses, hu.loose1, dI, dH], hX⟩)
  refine DCalls.ghost h fun x H' ⟨X, ⟨u, hx, hu, _⟩, hd, hH⟩ => ⟨_, _, H, hx, ?_, rfl, rfl⟩
  have hu2 := hu.lift hd
  rw [over_h0, ← hH] at hu2
  exact ((hu2.ghost.agg1 (pre := [.bool (waitL s e b).1.locked, dI (waitL s e b).1.owner]) (post := []) rfl rfl).tuple1 (pre := []) (post := [dH (waitL s e b).2.1, dI (waitL s e b).2.2]) rfl rfl)
theorem contains_w (G : Nat → DVal) {H1 X : DHeap} {l : List Nat} {v : DVal} (hv : OwnV 3 H1 (cL l) v X) (hl : l.length ≤ 1000) (o : Nat) : DCalls Try.prog G 9 [v, dI o] X (DRet (.bool (decide (o ∈ l))) X) := by
  have hi : DCalls Try.prog G 22 [v, dI o] X (DRet (dI (idx (cL l) o)) X) :=
    (index_spec G (cL l) o h0 (by rw [cL_len]; omega)).lent (fun w vs hw hr => by
      simp only [RelL] at hr ⊢
      obtain ⟨y, ys, rfl, g1, y2, ys2, rfl, g2, rfl⟩ := hr
      exact ⟨y, _, rfl, hv.viewsR w y hw g1, y2, _, rfl, Rel.lasts (lasts_h0 X w) _ _ g2, rfl⟩) rfl
  have hm : ((o : Int) ∈ cL l) ↔ o ∈ l := by
    simp only [cL, List.mem_map, Int.ofNat_eq_natCast]
    exact ⟨fun ⟨a, h1, h2⟩ => by have : a = o := by omega
                                 exact this ▸ h1, fun h => ⟨o, h, rfl⟩⟩
  refine dcalls_intro Try.func9 Try.call9 rfl (by kernel_rfl) ?_
  simp (disch := omega) only [go_sem, ↓reduceIte]
  refine hi.mono ?_
  rintro _ K ⟨rfl, rfl⟩
  by_cases c : o ∈ l
  · obtain ⟨i, hi2, -⟩ := idx_found (hm.2 c)
    rw [hi2]
    have hge : (0 : Int) ≤ (i : Int) := by omega
    simp (disch := omega) only [go_sem, ↓reduceIte, hge]
    exact DFin.refl ⟨by simp [c], rfl⟩
  · have hn : idx (cL l) o = -1 := by
      unfold idx
      have hnn : (cL l).findIdx? (fun x => decide (x = (o : Int))) = none := by
        rw [List.findIdx?_eq_none_iff]
        intro x hx
        simp only [decide_eq_false_iff_not]
        intro e
        rw [e] at hx
        exact c (hm.1 hx)
      rw [hnn]
    rw [hn]
    simp (disch := omega) only [go_sem, ↓reduceIte]
    exact DFin.refl ⟨by simp [c], rfl⟩
theorem activeL_rng {b : Int} {l : List Int} (hb : 0 ≤ b ∧ b ≤ 31) (hl : ∀ x ∈ l, x ≤ 31) : 0 ≤ activeL b l ∧ activeL b l ≤ 31 := by
  have h1 := (activeL_ge l b).1
  refine ⟨by omega, ?_⟩
  rcases activeL_mem l b with h | h
  · omega
  · exact hl _ h
theorem LInv.held_le {n m : Nat} {us : Nat → Nat → Bool} {s : List Nat} {w : LW} {t : Nat} (h : LInv n m us s w) (hm : m ≤ 4) (ht : t < n) : (w.held t).length ≤ 32 := by
  have hq : mayQ [(w.held t).map Int.ofNat] = true := by
    simp only [mayQ, List.length_singleton, List.flatten_cons, List.flatten_nil, List.append_nil, Bool.and_eq_true, decide_eq_true_eq, List.all_eq_true]
    refine ⟨⟨by omega, fun x hx => ?_⟩, (h.nod t ht).map _ (fun a b hab e => hab (Int.ofNat.inj e))⟩
    obtain ⟨y, hy, rfl⟩ := List.mem_map.1 hx
    have := (h.held t ht y hy).1
    simp only [Int.ofNat_eq_natCast]
    omega
  have := mayQ_flat hq
  simpa using this
theorem LInv.open_in {n m : Nat} {us : Nat → Nat → Bool} {s : List Nat} {w : LW} {o : Nat} (h : LInv n m us s w) (ho : o < m) {b : List Bool} {q : List (List Int)} {t : Nat} (ht : t < n) (hq : ∀ x ∈ q.flatten, x ∈ (w.obj o).q.flatten ∨ x = t) {p : Nat × Int} (hp : openP q b = some p) : 0 ≤ p.2 ∧ p.2 < n ∧ 0 ≤ w.base p.2.toNat ∧ w.base p.2.toNat ≤ 31 := by
  obtain ⟨l, h1, -⟩ := openP_first hp
  have hx : p.2 ∈ q.flatten := mem_flat.2 ⟨p.1, by rw [List.getD_eq_getElem?_getD, h1]; exact List.mem_cons_self⟩
  have hn : ∃ u : Nat, p.2 = u ∧ u < n := by
    rcases hq _ hx with h2 | h2
    · obtain ⟨u, e, hu, -⟩ := h.wait o ho _ h2; exact ⟨u, e, hu⟩
    · exact ⟨t, h2, ht⟩
  obtain ⟨u, e, hu⟩ := hn
  have hb := h.base u hu
  rw [e, Int.toNat_natCast]; omega
end
/-- A call whose last argument is lent to it; the memory may hold more than it asks for. -/
theorem DCalls.lendLast {P : Program} {G : Nat → DVal} {f : FuncId} {pre : List DVal} {v v' : DVal} {Hs Hb : DHeap} {R : DEnd → DHeap → Prop} (hs : Sub Hs Hb) (hv : ∀ w, SimHeap w Hb → ∀ x, Rel w Hb v x → Rel w Hs v' x) (h : DCalls P G f (pre ++ [v']) Hs R) : DCalls P G f (pre ++ [v]) Hb R :=
  DCalls.pre (fun w hw => ⟨((GhostE.sub hs (.tuple [])) w hw).1, ((GhostE.sub hs (.tuple [])) w hw).2.1, fun x hx => by
    simp only [Rel] at hx ⊢
    obtain ⟨xa, rfl, hx⟩ := hx
    refine ⟨xa, rfl, ?_⟩
    obtain ⟨xs, hxs⟩ : ∃ xs, xs = xa.toList := ⟨_, rfl⟩
    rw [← hxs] at hx ⊢
    have e : xs = xs.take pre.length ++ xs.drop pre.length := (List.take_append_drop _ _).symm
    have h1 := hx.take pre.length
    have h2 := hx.drop pre.length
    rw [List.take_left] at h1
    rw [List.drop_left] at h2
    rw [e]
    refine (RelL.lasts (lasts_sub hs w) _ _ h1).append ?_
    simp only [RelL] at h2 ⊢
    obtain ⟨y, ys, h2, h3, h4⟩ := h2
    exact ⟨y, ys, h2, hv w hw y h3, h4⟩⟩) h
theorem lend_bools {Hs H : DHeap} {q : Nat} {b : List Bool} (hq : H q = some (.cells (b.map .bool) 4)) (hs : Sub Hs H) (hn : Hs q = none) : ∀ w, SimHeap w H → ∀ x, Rel w H (.oslice 1 q 0 b.length b.length) x → Rel w Hs (dBs b) x := fun w hw x hx => by
  have hj : OwnJ Hs 4 1 b.length (b.map .bool) (.oslice 1 q 0 b.length b.length) H := .inr ⟨q, hn, by simp, rfl, hq, hs⟩
  exact (hj.ghost w hw).2.2 x hx
/-- A cell that got a slice of the call's own is seen as memory that lasts. -/
theorem fzCell {B K : DHeap} {r : Nat} {cs cs' : List DVal} {e : TypeId} (h4 : K r = some (.cells cs e)) (hB : Sub B K) (hs : ∀ w, SimHeap w K → ∀ xs, RelL w K cs xs → RelL w (upd B r (some (.cells cs' e))) cs' xs) :
    (∀ b, K b = none → (upd B r (some (.cells cs' e))) b = none) ∧ ∀ w, SimHeap w K → SimHeap w (upd B r (some (.cells cs' e))) := by
  have hd : ∀ b, K b = none → (upd B r (some (.cells cs' e))) b = none := fun b hb => by
    simp only [upd]
    split
    · rename_i e1; rw [e1, h4] at hb; cases hb
    · exact hB.lo hb
  refine ⟨hd, fun w hH b o hb => ?_⟩
  have hl : Lasts K w (upd B r (some (.cells cs' e))) w := ⟨fun b i x hb hc => ⟨hd b hb, hc⟩, Nat.le_refl _, fun _ _ => rfl⟩
  simp only [upd] at hb
  split at hb
  · rename_i e1
    subst e1
    cases hb
    obtain ⟨xs, c, fz, g1, g2, g3, g5⟩ := hH _ _ h4
    exact ⟨xs, c, fz, g1, g2, hs w hH xs g3, g5⟩
  · exact (hH b o (hB b o hb)).lasts hl
/-- What a queue of the model comes to, with a new slice at one place. -/
theorem fzRow {K B2 : DHeap} {q e : Nat} {ms : List (List Int)} {l : List Int} {v : DVal} (he : e < ms.length) (hq : K q = some (.cells ((ms.map dIs).set e v) 27)) (hv : OwnJ B2 3 1 l.length (l.map dI) v K) (hB : B2 q ≠ none) :
    ∃ Kf, (∀ b, K b = none → Kf b = none) ∧ (∀ w, SimHeap w K → SimHeap w Kf) ∧ Kf q = some (.cells ((ms.set e l).map dIs) 27) ∧ (∀ b, b ≠ q → ∀ o, B2 b = some o → Kf b = some o) ∧ Kf = upd B2 q (some (.cells ((ms.set e l).map dIs) 27)) := by
  have h := fzCell (cs' := (ms.set e l).map dIs) hq hv.sub (fun w hw xs hx => by
    have hd : ∀ b, K b = none → (upd B2 q (some (.cells ((ms.set e l).map dIs) 27))) b = none := fun b hb => by
      simp only [upd]
      split
      · rename_i e1; rw [e1, hq] at hb; cases hb
      · exact hv.sub.lo hb
    have hd2 : ∀ b, B2 b = none → (upd B2 q (some (.cells ((ms.set e l).map dIs) 27))) b = none := fun b hb => by
      have hne : b ≠ q := fun e1 => hB (by rw [← e1]; exact hb)
      rw [upd_ne _ _ _ _ hne]; exact hb
    have L1 : Lasts K w (upd B2 q (some (.cells ((ms.set e l).map dIs) 27))) w := ⟨fun b i x hb hc => ⟨hd b hb, hc⟩, Nat.le_refl _, fun _ _ => rfl⟩
    have L2 : Lasts B2 w (upd B2 q (some (.cells ((ms.set e l).map dIs) 27))) w := ⟨fun b i x hb hc => ⟨hd2 b hb, hc⟩, Nat.le_refl _, fun _ _ => rfl⟩
    have e1 : (ms.map dIs).set e v = (ms.take e).map dIs ++ v :: (ms.drop (e + 1)).map dIs := by
      rw [List.set_eq_take_append_cons_drop, if_pos (by simpa using he), List.map_take, List.map_drop]
    have e2 : (ms.set e l).map dIs = (ms.take e).map dIs ++ dIs l :: (ms.drop (e + 1)).map dIs := by
      rw [List.set_eq_take_append_cons_drop, if_pos he, List.map_append, List.map_cons]
    obtain ⟨T, hT⟩ : ∃ T, T = upd B2 q (some (.cells ((ms.set e l).map dIs) 27)) := ⟨_, rfl⟩
    rw [← hT] at L1 L2 ⊢
    rw [e1] at hx
    rw [e2]
    have e3 : xs = xs.take ((ms.take e).map dIs).length ++ xs.drop ((ms.take e).map dIs).length := (List.take_append_drop _ _).symm
    have h1 := hx.take ((ms.take e).map dIs).length
    have h2 := hx.drop ((ms.take e).map dIs).length
    rw [List.take_left] at h1
    rw [List.drop_left] at h2
    rw [e3]
    refine (RelL.lasts L1 _ _ h1).append ?_
    simp only [RelL] at h2 ⊢
    obtain ⟨y, ys, h2, g1, g2⟩ := h2
    refine ⟨y, ys, h2, ?_, RelL.lasts L1 _ _ g2⟩
    have := (hv.ghost w hw).2.2 y g1
    exact Rel.lasts L2 _ _ this)
  exact ⟨_, h.1, h.2, upd_same _ _ _, fun b hb o ho => by rw [upd_ne _ _ _ _ hb]; exact ho, rfl⟩
/-- A call in memory that is seen otherwise. -/
theorem DCalls.seenLast {P : Program} {G : Nat → DVal} {f : FuncId} {pre : List DVal} {v v' : DVal} {Hs Hb : DHeap} {R : DEnd → DHeap → Prop} (hd : ∀ b, Hb b = none → Hs b = none) (hh : ∀ w, SimHeap w Hb → SimHeap w Hs) (hv : ∀ w, SimHeap w Hb → ∀ x, Rel w Hb v x → Rel w Hs v' x) (h : DCalls P G f (pre ++ [v']) Hs R) : DCalls P G f (pre ++ [v]) Hb R :=
  DCalls.pre (fun w hw => ⟨hh w hw, fun b hb hn => hb (hd b hn), fun x hx => by
    have L1 : Lasts Hb w Hs w := ⟨fun b i x hb hc => ⟨hd b hb, hc⟩, Nat.le_refl _, fun _ _ => rfl⟩
    simp only [Rel] at hx ⊢
    obtain ⟨xa, rfl, hx⟩ := hx
    refine ⟨xa, rfl, ?_⟩
    obtain ⟨xs, hxs⟩ : ∃ xs, xs = xa.toList := ⟨_, rfl⟩
    rw [← hxs] at hx ⊢
    have e : xs = xs.take pre.length ++ xs.drop pre.length := (List.take_append_drop _ _).symm
    have h1 := hx.take pre.length
    have h2 := hx.drop pre.length
    rw [List.take_left] at h1
    rw [List.drop_left] at h2
    rw [e]
    refine (RelL.lasts L1 _ _ h1).append ?_
    simp only [RelL] at h2 ⊢
    obtain ⟨y, ys, h2, h3, h4⟩ := h2
    exact ⟨y, ys, h2, hv w hw y h3, h4⟩⟩) h
theorem OwnJ.atB {B H' : DHeap} {e : TypeId} {size n : Nat} {cs : List DVal} {v : DVal} {r : Nat} {o : DObj} (h : OwnJ B e size n cs v H') (hr : B r = some o) (y : DObj) : OwnJ (upd B r (some y)) e size n cs v (upd H' r (some y)) := by
  rcases h with ⟨a, b, c, d⟩ | ⟨q, a, b, c, d, f⟩
  · exact .inl ⟨a, b, c, d.both _ _⟩
  · have hne : q ≠ r := fun e => by rw [e, hr] at a; cases a
    exact .inr ⟨q, by rw [upd_ne _ _ _ _ hne]; exact a, b, c, by rw [upd_ne _ _ _ _ hne]; exact d, f.both _ _⟩
end Go.Dl

-- LockFree: the world while it is set up.
namespace Go.Dl
open Go Go.Proofs
set_option maxRecDepth 100000
/-- A list that is built in place, beside what the caller has. -/
def Lst (H X : DHeap) (e : TypeId) (size k : Nat) (cs : List DVal) (v : DVal) : Prop := (k = 0 ∧ cs = [] ∧ v = .nilSlice) ∨ ∃ q, H q = none ∧ cs.length = k * size ∧ v = .oslice size q 0 k k ∧ X q = some (.cells cs e)
section
variable {H X B : DHeap} {e : TypeId} {size k : Nat} {cs : List DVal} {v : DVal}
theorem Lst.own (h : Lst H X e size k cs v) (hs : Sub H X) : ∃ B, OwnJ B e size k cs v X ∧ Sub H B ∧ Sub B X ∧ ∀ b o, X b = some o → o ≠ .cells cs e → B b = some o := by
  rcases h with ⟨rfl, rfl, rfl⟩ | ⟨q, h1, h2, rfl, h4⟩
  · exact ⟨X, .inl ⟨rfl, rfl, rfl, Sub.refl _⟩, hs, Sub.refl _, fun b o hb _ => hb⟩
  · refine ⟨upd X q none, .inr ⟨q, upd_same _ _ _, h2, rfl, h4, sub_off _ _⟩, hs.up h1 _, sub_off _ _, fun b o hb ho => ?_⟩
    rw [upd_ne _ _ _ _ (fun e => ho (by rw [e, h4] at hb; cases hb; rfl))]; exact hb
theorem Lst.of (h : OwnJ B e size (k + 1) cs v X) (hs : Sub H B) : Lst H X e size (k + 1) cs v := by
  rcases h with ⟨h, _⟩ | ⟨q, h1, h2, h3, h4, _⟩
  · omega
  · exact .inr ⟨q, hs.lo h1, h2, h3, h4⟩
theorem Lst.keep {X2 : DHeap} (h : Lst H X e size k cs v) (s : ∀ b, X b = some (.cells cs e) → X2 b = some (.cells cs e)) : Lst H X2 e size k cs v := by
  rcases h with h | ⟨q, h1, h2, h3, h4⟩
  · exact .inl h
  · exact .inr ⟨q, h1, h2, h3, s q h4⟩
theorem Lst.base17 (h : Lst H X e size k cs v) {r : Nat} (hr : X r = none) (o : Option DObj) : Lst (upd H r o) (upd X r o) e size k cs v := by
  rcases h with h | ⟨q, h1, h2, h3, h4⟩
  · exact .inl h
  · have hne : q ≠ r := fun e => by rw [e, hr] at h4; cases h4
    exact .inr ⟨q, by rw [upd_ne _ _ _ _ hne]; exact h1, h2, h3, by rw [upd_ne _ _ _ _ hne]; exact h4⟩
theorem Lst.raise (h : Lst H X e size k cs v) {r : Nat} {cs1 : List DVal} {e1 : TypeId} (hr : X r = some (.cells cs1 e1)) (he : e ≠ e1) {o : Option DObj} : Lst (upd H r o) (upd X r o) e size k cs v := by
  rcases h with h | ⟨q, h1, h2, h3, h4⟩
  · exact .inl h
  · have hne : q ≠ r := fun e2 => by rw [e2, hr] at h4; cases h4; exact he rfl
    exact .inr ⟨q, by rw [upd_ne _ _ _ _ hne]; exact h1, h2, h3, by rw [upd_ne _ _ _ _ hne]; exact h4⟩
theorem Lst.one (h : Lst H X e size k cs v) : v.cells = [v] ∧ v.one = true := by
  rcases h with ⟨_, _, rfl⟩ | ⟨q, _, _, rfl, _⟩ <;> exact ⟨rfl, rfl⟩
end
section
variable {vb vh vs vc vo vm : DVal} {vr : List DVal}
theorem wC_p0 (x : DVal) : splice (wC vb vh vs vc vo vm vr) 0 [x] = wC x vh vs vc vo vm vr := by simp [splice, wC]
theorem wC_p35 (h : vr.length = 32) (x : DVal) : splice (wC vb vh vs vc vo vm vr) 35 [x] = wC vb vh vs x vo vm vr := by
  rw [splice_setD _ _ _ (by rw [wC_len h]; omega)]
  simp only [wC, List.set_cons_succ]; rw [List.set_append_right _ _ (by omega), h]; rfl
theorem wC_p36 (h : vr.length = 32) (x : DVal) : splice (wC vb vh vs vc vo vm vr) 36 [x] = wC vb vh vs vc x vm vr := by
  rw [splice_setD _ _ _ (by rw [wC_len h]; omega)]
  simp only [wC, List.set_cons_succ]; rw [List.set_append_right _ _ (by omega), h]; rfl
theorem wC_p37 (h : vr.length = 32) (x : DVal) : splice (wC vb vh vs vc vo vm vr) 37 [x] = wC vb vh vs vc vo x vr := by
  rw [splice_setD _ _ _ (by rw [wC_len h]; omega)]
  simp only [wC, List.set_cons_succ]; rw [List.set_append_right _ _ (by omega), h]; rfl
end
theorem wC_all {vr : List DVal} (h : vr.length = 32) (vb vh vs vc vo vm : DVal) : (wC vb vh vs vc vo vm vr)[0]? = some vb ∧ (wC vb vh vs vc vo vm vr)[35]? = some vc ∧ (wC vb vh vs vc vo vm vr)[36]? = some vo ∧ (wC vb vh vs vc vo vm vr)[37]? = some vm ∧ ∀ x, splice (wC vb vh vs vc vo vm vr) 35 [x] = wC vb vh vs x vo vm vr ∧ splice (wC vb vh vs vc vo vm vr) 36 [x] = wC vb vh vs vc x vm vr ∧ splice (wC vb vh vs vc vo vm vr) 37 [x] = wC vb vh vs vc vo x vr := ⟨wC_0, wC_35 h, wC_36 h, wC_37 h, fun x => ⟨wC_p35 h x, wC_p36 h x, wC_p37 h x⟩⟩
theorem kU {H Y : DHeap} {q : Nat} {y : Option DObj} (hY : Y = upd H q y) (hq : H q = none) : Sub H Y := fun b o h => by rw [hY, upd_ne _ _ _ _ (none_ne hq h)]; exact h
theorem kA {B X Y : DHeap} {e e' : TypeId} {size k : Nat} {cs cs' : List DVal} {v : DVal} (hv : OwnJ B e size k cs v Y) (hB : ∀ b o, X b = some o → o ≠ .cells cs' e' → B b = some o) : ∀ b o, X b = some o → o ≠ .cells cs' e' → Y b = some o := fun b o h n => hv.sub _ _ (hB b o h n)
theorem keepU {H : DHeap} {r x : Nat} {y : Option DObj} {o : DObj} (h : H x = some o) (hn : x ≠ r) : upd H r y x = some o := by rw [upd_ne _ _ _ _ hn]; exact h
def baseF (bases : List Int) (t : Nat) : Int := (bases.getD t 0).tmod 8
def dBy8 (l : List Int) : DVal := .vslice (l.map (.int .u8)) l.length
def dSc (l : List Int) : DVal := .vslice (l.map (.int .u16)) l.length
def usesB (users : List Int) (t o : Nat) : Bool := decide (IntKind.u8.wrap ((BitVec.ofInt 8 ((users.getD o 0).fdiv (2 ^ min t 8)) &&& BitVec.ofInt 8 1).toNat : Int) = 1)
section
variable {G : Nat → DVal}
def bit1 (x : Int) : Nat := (BitVec.ofInt 8 (x.fdiv (2 ^ min 4 8)) &&& BitVec.ofInt 8 1).toNat
theorem bit1_le (x : Int) : bit1 x ≤ 1 := by
  unfold bit1
  rw [BitVec.toNat_and]
  exact Nat.and_le_right
def entF (more : List Int) (o : Nat) : Nat := 2 * bit1 (more.getD o 0)
theorem entF_two (more : List Int) (o : Nat) : entF more o = 0 ∨ entF more o = 2 := by
  have := bit1_le (more.getD o 0); unfold entF; omega
theorem entF_wrap (x : Int) : IntKind.i64.wrap (2 * IntKind.i64.wrap (IntKind.u8.wrap (bit1 x : Int))) = ((2 * bit1 x : Nat) : Int) := by
  have := bit1_le x
  rw [IntKind.wrap_u8, IntKind.wrap_i64, IntKind.wrap_i64]; omega
theorem newL_ent (more : List Int) (o : Nat) : newL (entF more o : Nat) = (⟨false, 0, List.replicate (entF more o) []⟩, 0) := by
  have := entF_two more o
  rw [newL, if_pos (by omega), Int.toNat_natCast]
def topF (bases users : List Int) (o : Nat) : Nat → Int
  | 0 => 0
  | k + 1 => if usesB users k o = true then max (topF bases users o k) (baseF bases k) else topF bases users o k
def ceilF (bases users more : List Int) (n o : Nat) : Int := topF bases users o n + (more.getD o 0).tmod 3
theorem baseF_rng (bases : List Int) (hb : ∀ x ∈ bases, 0 ≤ x ∧ x < 256) (t : Nat) : 0 ≤ baseF bases t ∧ baseF bases t ≤ 7 := by
  unfold baseF
  by_cases h : t < bases.length
  · have := hb _ (List.getElem_mem h)
    rw [List.getD_eq_getElem?_getD, List.getElem?_eq_getElem h, Option.getD_some, Int.tmod_eq_emod_of_nonneg (by omega)]; omega
  · rw [List.getD_eq_getElem?_getD, List.getElem?_eq_none (by omega)]; decide
theorem topF_rng (bases users : List Int) (o : Nat) (hb : ∀ x ∈ bases, 0 ≤ x ∧ x < 256) : ∀ k, 0 ≤ topF bases users o k ∧ topF bases users o k ≤ 7
  | 0 => by simp [topF]
  | k + 1 => by
    have h1 := topF_rng bases users o hb k
    have h2 := baseF_rng bases hb k
    rw [topF]; split <;> omega
/-- The world that is being set up: o objects stand. -/
def SetUp (H3 : DHeap) (r rh rs qb n : Nat) (nils : List DVal) (bases users more : List Int) (o : Nat) (X : DHeap) : Prop :=
  ∃ (Hb : DHeap) (rr : Nat → Nat) (vc vo vm : DVal), Sub H3 Hb ∧ Sub Hb X ∧ Hb r = none ∧ X r = some (.cells (wC (.oslice 1 qb 0 n n) (.oslice 1 rh 0 n n) (.oslice 1 rs 0 n n) vc vo vm nils) 32) ∧
    Lst Hb X 3 1 o ((List.range o).map fun o => dI (ceilF bases users more n o)) vc ∧
    Lst Hb X 36 3 o ((List.range o).flatMap fun o => dPc ⟨false, 0, List.replicate (entF more o) []⟩) vo ∧
    Lst Hb X 26 1 o ((List.range o).map fun o => .oslice 1 (rr o) 0 (entF more o) (entF more o)) vm ∧
    (∀ x, x < o → Hb (rr x) = some (.cells (List.replicate (entF more x) (dIs [])) 27) ∧ H3 (rr x) = none) ∧ ((List.range o).map rr).Nodup
/-- The same, the last object's queues as they were made. -/
def SetUp1 (H3 : DHeap) (r rh rs qb n : Nat) (nils : List DVal) (bases users more : List Int) (o : Nat) (X : DHeap) : Prop :=
  ∃ (Hb : DHeap) (rr : Nat → Nat) (vc vo vm : DVal), Sub H3 Hb ∧ Sub Hb X ∧ Hb r = none ∧ X r = some (.cells (wC (.oslice 1 qb 0 n n) (.oslice 1 rh 0 n n) (.oslice 1 rs 0 n n) vc vo vm nils) 32) ∧
    Lst Hb X 3 1 (o + 1) ((List.range (o + 1)).map fun o => dI (ceilF bases users more n o)) vc ∧
    Lst Hb X 36 3 (o + 1) ((List.range (o + 1)).flatMap fun o => dPc ⟨false, 0, List.replicate (entF more o) []⟩) vo ∧
    Lst Hb X 26 1 (o + 1) ((List.range (o + 1)).map fun o => .oslice 1 (rr o) 0 (entF more o) (entF more o)) vm ∧
    (∀ x, x < o → Hb (rr x) = some (.cells (List.replicate (entF more x) (dIs [])) 27) ∧ H3 (rr x) = none) ∧ Hb (rr o) = none ∧ X (rr o) = some (.cells (List.replicate (entF more o) .nilSlice) 27) ∧ ((List.range (o + 1)).map rr).Nodup
theorem lastsD {K T : DHeap} (hd : ∀ b, K b = none → T b = none) (w : World) : Lasts K w T w := ⟨fun b i x hb hc => ⟨hd b hb, hc⟩, Nat.le_refl _, fun _ _ => rfl⟩
theorem GhostS.le {G : Nat → DVal} {env : Nat → DVal} {K : DHeap} {q : Nat} {cs cs' : List DVal} {e : TypeId} (h4 : K q = some (.cells cs e)) (hle : DLes cs cs') : GhostS G ⟨env, K⟩ ⟨env, upd K q (some (.cells cs' e))⟩ := fun w hH hG => by
  have hd : ∀ b, K b = none → (upd K q (some (.cells cs' e))) b = none := fun b hb => by
    simp only [upd]
    split
    · rename_i e1; rw [e1, h4] at hb; cases hb
    · exact hb
  refine ⟨fun b o hb => ?_, fun b hb h => hb (hd b h), hG.lasts (lastsD hd w), fun i x hx => Rel.lasts (lastsD hd w) _ _ hx⟩
  simp only [upd] at hb
  split at hb
  · rename_i e1
    subst e1
    cases hb
    obtain ⟨xs, c, fz, g1, g2, g3, g5⟩ := hH _ _ h4
    exact ⟨xs, c, fz, g1, g2, RelL.lasts (lastsD hd w) _ _ (hle w K xs g3), g5⟩
  · exact (hH b o hb).lasts (lastsD hd w)
theorem DLes.rep : ∀ n, DLes (List.replicate n .nilSlice) (List.replicate n (dIs []))
  | 0 => fun _ _ _ h => h
  | n + 1 => by rw [List.replicate_succ, List.replicate_succ]; exact .cons DLe.nil (DLes.rep n)
theorem SetUp.step {H3 Hb Y : DHeap} {r rh rs qb n : Nat} {nils : List DVal} {bases users more : List Int} {o q : Nat} {rr : Nat → Nat} {v1 v2 v3 vc vo vm : DVal} {en : Nat}
    (hs : Sub H3 Hb ∧ Hb r = none ∧ (∀ x, x < o → Hb (rr x) = some (.cells (List.replicate (entF more x) (dIs [])) 27) ∧ H3 (rr x) = none) ∧ ((List.range o).map rr).Nodup) (hen : en = entF more o)
    (gW : Y r = some (.cells (wC (.oslice 1 qb 0 n n) (.oslice 1 rh 0 n n) (.oslice 1 rs 0 n n) v1 v2 v3 nils) 32)) (b : Sub Hb Y)
    (Lc : Lst Hb Y 3 1 (o + 1) (((List.range o).map fun o => dI (ceilF bases users more n o)) ++ [.int .i64 (ceilF bases users more n o)]) vc)
    (Lo : Lst Hb Y 36 3 (o + 1) (((List.range o).flatMap fun o => dPc ⟨false, 0, List.replicate (entF more o) []⟩) ++ [.bool false, .int .i64 0, .vslice ((List.replicate en ([] : List Int)).map dIs) en]) vo)
    (Lm : Lst Hb Y 26 1 (o + 1) (((List.range o).map fun o => .oslice 1 (rr o) 0 (entF more o) (entF more o)) ++ [.oslice 1 q 0 en en]) vm)
    (p : Y q = some (.cells (List.replicate en .nilSlice) 27)) (hq : Hb q = none) :
    SetUp1 H3 r rh rs qb n nils bases users more o (upd Y r (some (.cells (wC (.oslice 1 qb 0 n n) (.oslice 1 rh 0 n n) (.oslice 1 rs 0 n n) vc vo vm nils) 32))) := by
  obtain ⟨s1, s2, s3, s4⟩ := hs
  have hro : ∀ x, x < o → set1 rr o q x = rr x := fun x hx => set1_ne _ _ (by omega)
  have hqr : ∀ x, x < o → rr x ≠ q := fun x hx e => by rw [← e, (s3 x hx).1] at hq; cases hq
  have hm : (List.range (o + 1)).map (set1 rr o q) = (List.range o).map rr ++ [q] := by
    rw [List.range_succ, List.map_append, List.map_singleton, set1_same]
    congr 1
    exact List.map_congr_left fun x hx => hro x (List.mem_range.1 hx)
  have kp : ∀ {cs e}, e ≠ 32 → ∀ b', Y b' = some (.cells cs e) → upd Y r (some (.cells (wC (.oslice 1 qb 0 n n) (.oslice 1 rh 0 n n) (.oslice 1 rs 0 n n) vc vo vm nils) 32)) b' = some (.cells cs e) := fun he b' hb => keepU hb (fun e1 => by rw [e1, gW] at hb; simp only [Option.some.injEq, DObj.cells.injEq] at hb; exact he hb.2.symm)
  refine ⟨Hb, set1 rr o q, vc, vo, vm, s1, b.up s2 _, s2, upd_same _ _ _, ?_, ?_, ?_, fun x hx => by rw [hro x hx]; exact s3 x hx, by rw [set1_same]; exact hq, ?_, ?_⟩
  · rw [List.range_succ, List.map_append, List.map_singleton]; exact Lc.keep (kp (by decide))
  · rw [List.range_succ, List.flatMap_append, List.flatMap_singleton, dPc, ← hen]
    rw [dIss, List.length_replicate]
    exact Lo.keep (kp (by decide))
  · have : (List.range (o + 1)).map (fun x => DVal.oslice 1 (set1 rr o q x) 0 (entF more x) (entF more x)) = (List.range o).map (fun x => .oslice 1 (rr x) 0 (entF more x) (entF more x)) ++ [.oslice 1 q 0 en en] := by
      rw [List.range_succ, List.map_append, List.map_singleton, set1_same, hen]
      congr 1
      exact List.map_congr_left fun x hx => by rw [hro x (List.mem_range.1 hx)]
    rw [this]; exact Lm.keep (kp (by decide))
  · rw [set1_same, ← hen]; exact kp (by decide) _ p
  · rw [hm, List.nodup_append]
    exact ⟨s4, by simp, fun a ha b hb e => by
      obtain ⟨x, hx, rfl⟩ := List.mem_map.1 ha
      exact hqr x (List.mem_range.1 hx) (e.trans (List.mem_singleton.1 hb))⟩
theorem SetUp1.ghost {G : Nat → DVal} {env : Nat → DVal} {H3 K : DHeap} {r rh rs qb n : Nat} {nils : List DVal} {bases users more : List Int} {o : Nat} (h : SetUp1 H3 r rh rs qb n nils bases users more o K) : ∃ K', GhostS G ⟨env, K⟩ ⟨env, K'⟩ ∧ SetUp H3 r rh rs qb n nils bases users more (o + 1) K' := by
  obtain ⟨Hb, rr, vc, vo, vm, s1, b, s2, gW, Lc, Lo, Lm, s3, hq, hqK, hnd⟩ := h
  refine ⟨_, GhostS.le hqK (DLes.rep _), upd Hb (rr o) (some (.cells (List.replicate (entF more o) (dIs [])) 27)), rr, vc, vo, vm, s1.new hq _, b.both _ _, ?_, ?_, ?_, ?_, ?_, ?_, hnd⟩
  · rw [upd_ne _ _ _ _ (fun e => by rw [e, hqK] at gW; simp at gW)]; exact s2
  · exact keepU gW (fun e => by rw [e, hqK] at gW; simp at gW)
  · exact Lc.raise hqK (by simp)
  · exact Lo.raise hqK (by simp)
  · exact Lm.raise hqK (by simp)
  · intro x hx
    by_cases e : x = o
    · rw [e, upd_same]; exact ⟨rfl, s1.lo hq⟩
    · have h3 := s3 x (by omega)
      rw [upd_ne _ _ _ _ (fun e' => by rw [e', hq] at h3; cases h3.1)]; exact h3
theorem GhostS.cellB {G : Nat → DVal} {env : Nat → DVal} {B K : DHeap} {r : Nat} {cs cs' : List DVal} {e : TypeId} (h4 : K r = some (.cells cs e)) (hB : Sub B K) (hs : ∀ w, SimHeap w K → ∀ xs, RelL w K cs xs → RelL w (upd B r (some (.cells cs' e))) cs' xs) : GhostS G ⟨env, K⟩ ⟨env, upd B r (some (.cells cs' e))⟩ := fun w hH hG => by
  have hd : ∀ b, K b = none → (upd B r (some (.cells cs' e))) b = none := fun b hb => by
    simp only [upd]
    split
    · rename_i e1; rw [e1, h4] at hb; cases hb
    · exact hB.lo hb
  refine ⟨fun b o hb => ?_, fun b hb h => hb (hd b h), hG.lasts (lastsD hd w), fun i x hx => Rel.lasts (lastsD hd w) _ _ hx⟩
  simp only [upd] at hb
  split at hb
  · rename_i e1
    subst e1
    cases hb
    obtain ⟨xs, c, fz, g1, g2, g3, g5⟩ := hH _ _ h4
    exact ⟨xs, c, fz, g1, g2, hs w hH xs g3, g5⟩
  · exact (hH b o (hB b o hb)).lasts (lastsD hd w)
def worldF (bases users more : List Int) (n : Nat) : LW := ⟨baseF bases, fun _ => [], fun _ => 0, fun _ => [], ceilF bases users more n, fun o => ⟨false, 0, List.replicate (entF more o) []⟩, fun o => List.replicate (entF more o) []⟩
theorem rangeMap_const {α : Type} (c : α) (n : Nat) : (List.range n).map (fun _ => c) = List.replicate n c := by
  apply List.ext_getElem <;> simp
theorem topF_ge (bases users : List Int) (o : Nat) : ∀ k t, t < k → usesB users t o = true → baseF bases t ≤ topF bases users o k
  | k + 1, t, ht, hu => by
    rw [topF]
    by_cases e : t = k
    · subst e; rw [if_pos hu]; omega
    · have := topF_ge bases users o k t (by omega) hu
      split <;> omega
theorem ceilF_rng (bases users more : List Int) (hb : ∀ x ∈ bases, 0 ≤ x ∧ x < 256) (hm : ∀ x ∈ more, 0 ≤ x ∧ x < 256) (n o : Nat) : topF bases users o n ≤ ceilF bases users more n o ∧ 0 ≤ ceilF bases users more n o ∧ ceilF bases users more n o ≤ 9 := by
  have h1 := topF_rng bases users o hb n
  unfold ceilF
  by_cases h : o < more.length
  · have := hm _ (List.getElem_mem h)
    rw [List.getD_eq_getElem?_getD, List.getElem?_eq_getElem h, Option.getD_some, Int.tmod_eq_emod_of_nonneg (by omega)]; omega
  · rw [List.getD_eq_getElem?_getD, List.getElem?_eq_none (by omega)]
    have : ((none : Option Int).getD 0).tmod 3 = 0 := by decide
    omega
theorem worldF_inv (bases users more : List Int) (hb : ∀ x ∈ bases, 0 ≤ x ∧ x < 256) (hm : ∀ x ∈ more, 0 ≤ x ∧ x < 256) {n m : Nat} (hn : n ≤ 8) : LInv n m (usesB users) [] (worldF bases users more n) where
  n8 := hn
  base t _ := baseF_rng bases hb t
  ceil o _ := ⟨(ceilF_rng bases users more hb hm n o).2.2, fun t ht hu => Int.le_trans (topF_ge bases users o n t ht hu) (ceilF_rng bases users more hb hm n o).1⟩
  objs o _ := by
    have h2 := entF_two more o
    refine ⟨?_, ?_, rfl⟩
    · show mayS ⟨false, 0, List.replicate (entF more o) []⟩ = true
      rcases h2 with h | h <;> rw [h] <;> decide
    · show (List.replicate (entF more o) ([] : List Int)).length = 0 ∨ (List.replicate (entF more o) ([] : List Int)).length = 2
      rw [List.length_replicate]; exact h2
  held t _ o ho := by cases ho
  nod t _ := List.nodup_nil
  own o _ h := by cases h
  hst t _ _ h := absurd rfl h
  ent t _ o ho := by cases ho
  apart t _ u _ _ h := absurd rfl h
  rdy p _ u := ⟨fun h => (by cases h), fun h => absurd h.2.2.1 (by show ¬ (0 : Int) = 1; decide)⟩
  ord p _ := List.Pairwise.nil
  rnd p _ := List.nodup_nil
  wait o _ x hx := by
    have : (List.replicate (entF more o) ([] : List Int)).flatten = [] := by simp
    have hx' : x ∈ (List.replicate (entF more o) ([] : List Int)).flatten := hx
    rw [this] at hx'; cases hx'
  uniq o _ o' _ x hx := by
    have : (List.replicate (entF more o) ([] : List Int)).flatten = [] := by simp
    have hx' : x ∈ (List.replicate (entF more o) ([] : List Int)).flatten := hx
    rw [this] at hx'; cases hx'
/-- The world stands. -/
theorem SetUp.done {G : Nat → DVal} {env : Nat → DVal} {X0 H3 K : DHeap} {r rh rs qb n m : Nat} {nils : List DVal} {bases users more : List Int} (hm : m ≠ 0) (h : SetUp H3 r rh rs qb n nils bases users more m K) (s03 : Sub X0 H3) (hn : nils = List.replicate 32 .nilSlice)
    (nr : X0 r = none) (nrh : X0 rh = none) (nrs : X0 rs = none) (n1 : rs ≠ rh) (n2 : r ≠ rh) (n3 : r ≠ rs) (grh : H3 rh = some (.cells (List.replicate n .nilSlice) 27)) (grs : H3 rs = some (.cells (List.replicate n (dI 0)) 3))
    (gqb : H3 qb = some (.cells ((List.range n).map fun t => dI (baseF bases t)) 3)) (nqb : X0 qb = none) (nbs : qb ≠ rs) :
    ∃ K', GhostS G ⟨env, K⟩ ⟨env, K'⟩ ∧ WAt X0 n m r (worldF bases users more n) K' := by
  obtain ⟨Hb, rr, vc, vo, vm, s1, b, s2, gW, Lc, Lo, Lm, s3, hnd⟩ := h
  rcases Lc with ⟨h, _⟩ | ⟨qc, c1, c2, rfl, c4⟩
  · exact absurd h hm
  rcases Lo with ⟨h, _⟩ | ⟨qo, o1, o2, rfl, o4⟩
  · exact absurd h hm
  rcases Lm with ⟨h, _⟩ | ⟨qm, m1, m2, rfl, m4⟩
  · exact absurd h hm
  have kb := b _ _ (s1 _ _ gqb)
  have krh := b _ _ (s1 _ _ grh)
  have krs := b _ _ (s1 _ _ grs)
  have hx : ∀ {p q : Nat} {o o' : DObj}, K p = some o → K q = some o' → o ≠ o' → p ≠ q := fun h1 h2 hne e => by rw [e, h2] at h1; cases h1; exact hne rfl
  have hcb : qc ≠ qb := fun e => by rw [e, s1 _ _ gqb] at c1; cases c1
  have hcs : qc ≠ rs := fun e => by rw [e, s1 _ _ grs] at c1; cases c1
  obtain ⟨B, hB⟩ : ∃ B, B = upd (upd K qb none) qc none := ⟨_, rfl⟩
  have sB : Sub B K := by rw [hB]; exact (sub_off _ _).trans (sub_off _ _)
  have Bk : ∀ {p o}, K p = some o → p ≠ qb → p ≠ qc → B p = some o := fun h1 h2 h3 => by rw [hB, upd_ne _ _ _ _ h3, upd_ne _ _ _ _ h2]; exact h1
  have rqb : r ≠ qb := hx gW kb (by simp)
  have rqc : r ≠ qc := hx gW c4 (by simp)
  obtain ⟨cs', hcs'⟩ : ∃ cs', cs' = wC (.vslice ((List.range n).map fun t => dI (baseF bases t)) n) (.oslice 1 rh 0 n n) (.oslice 1 rs 0 n n) (.vslice ((List.range m).map fun o => dI (ceilF bases users more n o)) m) (.oslice 3 qo 0 m m) (.oslice 1 qm 0 m m) nils := ⟨_, rfl⟩
  obtain ⟨K', hK'⟩ : ∃ K', K' = upd B r (some (.cells cs' 32)) := ⟨_, rfl⟩
  have hdK : ∀ b, B b = none → b ≠ r → K' b = none := fun b hb hne => by rw [hK', upd_ne _ _ _ _ hne]; exact hb
  have hd0 : ∀ b, K b = none → K' b = none := fun b hb => by
    have : b ≠ r := fun e => by rw [e, gW] at hb; cases hb
    exact hdK b (sB.lo hb) this
  have hdB : ∀ b, B b = none → K' b = none := fun b hb => by
    have : b ≠ r := fun e => by rw [e, Bk gW rqb rqc] at hb; cases hb
    exact hdK b hb this
  have own : ∀ {q : Nat} {l : List DVal} {k : Nat}, B q = none → l.length = k * 1 → K q = some (.cells l 3) → ∀ w, SimHeap w K → ∀ x, Rel w K (.oslice 1 q 0 k k) x → Rel w K' (.vslice l k) x := fun h1 h2 h3 w hw x hxx => by
    have hj : OwnJ B 3 1 _ _ (.oslice 1 _ 0 _ _) K := .inr ⟨_, h1, h2, rfl, h3, sB⟩
    exact Rel.lasts (lastsD hdB w) _ _ ((hj.ghost w hw).2.2 x hxx)
  refine ⟨K', ?_, ?_⟩
  · rw [hK']
    refine GhostS.cellB gW sB fun w hw xs hxs => ?_
    rw [← hK', hcs']
    simp only [wC, RelL] at hxs ⊢
    obtain ⟨y1, z1, rfl, g1, y2, z2, rfl, g2, y3, z3, rfl, g3, g4⟩ := hxs
    refine ⟨y1, _, rfl, own (by rw [hB, upd_ne _ _ _ _ hcb.symm]; exact upd_same _ _ _) (by simp) kb w hw _ g1, y2, _, rfl, Rel.lasts (lastsD hd0 w) _ _ g2, y3, _, rfl, Rel.lasts (lastsD hd0 w) _ _ g3, ?_⟩
    have e : z3 = z3.take nils.length ++ z3.drop nils.length := (List.take_append_drop _ _).symm
    have h1 := g4.take nils.length
    have h2 := g4.drop nils.length
    rw [List.take_left] at h1
    rw [List.drop_left] at h2
    rw [e]
    refine (RelL.lasts (lastsD hd0 w) _ _ h1).append ?_
    simp only [RelL] at h2 ⊢
    obtain ⟨y1, z1, h1, g1, y2, z2, rfl, g2⟩ := h2
    rw [h1]
    exact ⟨y1, _, rfl, own (by rw [hB]; exact upd_same _ _ _) c2 c4 w hw _ g1, y2, z2, rfl, Rel.lasts (lastsD hd0 w) _ _ g2.1, by
      obtain ⟨y3, z3, rfl, g3, rfl⟩ := g2.2
      exact ⟨y3, _, rfl, Rel.lasts (lastsD hd0 w) _ _ g3, rfl⟩⟩
  · have lk : ∀ {p o}, K p = some o → p ≠ r → p ≠ qb → p ≠ qc → K' p = some o := fun h1 h2 h3 h4 => by rw [hK', upd_ne _ _ _ _ h2]; exact Bk h1 h3 h4
    refine ⟨rh, rs, qo, qm, rr, nils, List.replicate n .nilSlice, K', {
      rows := ?_
      lr := by rw [hn]; simp
      lh := by simp
      c := by rw [hK', upd_same, hcs']; rfl
      h := lk krh n2.symm (hx krh kb (by simp)) (hx krh c4 (by simp))
      s := by rw [lk krs n3.symm nbs.symm hcs.symm]; show _ = some (DObj.cells ((List.range n).map fun _ => dI 0) _); rw [rangeMap_const]
      o := lk o4 (hx o4 gW (by simp)) (hx o4 kb (by simp)) (hx o4 c4 (by simp))
      mo := by
        rw [lk m4 (hx m4 gW (by simp)) (hx m4 kb (by simp)) (hx m4 c4 (by simp))]
        simp [worldF]
      mr := fun o ho => by
        have g := b _ _ (s3 o ho).1
        rw [lk g (hx g gW (by simp)) (hx g kb (by simp)) (hx g c4 (by simp))]
        simp [worldF]
      nd := ?_
      nw := ?_
      sub := ?_ }⟩
    · have e1 : ((List.range 32).map fun p => cL ((worldF bases users more n).ready p)) ++ ((List.range n).map fun t => cL ((worldF bases users more n).held t)) = List.replicate (32 + n) [] := by
        show ((List.range 32).map fun _ => ([] : List Int)) ++ ((List.range n).map fun _ => []) = _
        rw [rangeMap_const, rangeMap_const, List.replicate_append_replicate]
      rw [e1, hn, List.replicate_append_replicate]
      exact rows_start _ _ _
    · have t1 := hx o4 gW (by simp)
      have t2 := hx m4 gW (by simp)
      have t3 := hx o4 krh (by simp)
      have t4 := hx m4 krh (by simp)
      have t5 := hx o4 krs (by simp)
      have t6 := hx m4 krs (by simp)
      have t7 := hx o4 m4 (by simp)
      have t8 : ∀ x, x < m → rr x ≠ r ∧ rr x ≠ rh ∧ rr x ≠ rs ∧ rr x ≠ qo ∧ rr x ≠ qm := fun x hx' => by
        have g := b _ _ (s3 x hx').1
        exact ⟨hx g gW (by simp), (fun e => by have := (s3 x hx').2; rw [e, grh] at this; cases this), hx g krs (by simp), hx g o4 (by simp), hx g m4 (by simp)⟩
      simp only [List.nodup_cons, List.mem_cons, not_or, List.mem_map, List.mem_range, not_exists, not_and]
      exact ⟨⟨n2, n3, t1.symm, t2.symm, fun x hx' => (t8 x hx').1⟩, ⟨n1.symm, t3.symm, t4.symm, fun x hx' => (t8 x hx').2.1⟩, ⟨t5.symm, t6.symm, fun x hx' => (t8 x hx').2.2.1⟩, ⟨t7, fun x hx' => (t8 x hx').2.2.2.1⟩, fun x hx' => (t8 x hx').2.2.2.2, hnd⟩
    · intro b' hb'
      simp only [List.mem_cons, List.mem_map, List.mem_range] at hb'
      rcases hb' with rfl | rfl | rfl | rfl | rfl | ⟨x, hx', rfl⟩
      · exact nr
      · exact nrh
      · exact nrs
      · exact s03.lo (s1.lo o1)
      · exact s03.lo (s1.lo m1)
      · exact s03.lo (s3 x hx').2
    · intro b' o hb'
      refine lk (b _ _ (s1 _ _ (s03 _ _ hb'))) (fun e => by rw [e, nr] at hb'; cases hb') (fun e => by rw [e, nqb] at hb'; cases hb') (fun e => by rw [e] at hb'; rw [s1 _ _ (s03 _ _ hb')] at c1; cases c1)
theorem uses_spec (G : Nat → DVal) (users : List Int) (hu : ∀ x ∈ users, 0 ≤ x ∧ x < 256) {t o r5 : Nat} (ht : t < 8) (ho : o < users.length) (H : DHeap) (h5 : H r5 = some (.cells [dBy8 users] 22)) :
    DCalls Try.prog G 5 [dI t, dI o, .optr r5 0] H (DRet (.bool (usesB users t o)) H) := by
  have hg : (users.map (DVal.int .u8))[o]? = some (.int .u8 users[o]) := by rw [List.getElem?_map, List.getElem?_eq_getElem ho]; rfl
  refine dcalls_intro Try.func5 Try.call5 rfl (by kernel_rfl) ?_
  simp (disch := omega) only [go_sem, ↓reduceIte, h5, dBy8, hg, Int.toNat_natCast]
  refine DFin.refl ⟨?_, rfl⟩
  rw [usesB, List.getD_eq_getElem?_getD, List.getElem?_eq_getElem ho]; rfl
end
end Go.Dl
