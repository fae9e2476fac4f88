/- The data level and the contracts of the functions that are reached (part 8). -/
import Derived.Test.YtimnmempnhjbfaaMbg
set_option linter.unusedSimpArgs false
set_option linter.unusedVariables false
-- EntryOrder: own rows beside other blocks.
namespace Go.Dl
open Go Go.Proofs
set_option maxRecDepth 10000

theorem OwnV.over {e : TypeId} {H H1 X : DHeap} {l : List Int} {v : DVal} (h : OwnV e H l v H1) (d : Disj H1 X) : OwnV e (Dl.over H X) l v (Dl.over H1 X) := by
  rcases h with ⟨rfl, rfl, rfl⟩ | ⟨r, pre, lo, rest, hr, rfl, hlo, rfl⟩
  · exact .inl ⟨rfl, rfl, rfl⟩
  · have hx : X r = none := d.x (by simp [upd])
    exact .inr ⟨r, pre, lo, rest, over_eq_none.2 ⟨hr, hx⟩, rfl, hlo, (upd_over_lo hx _).symm⟩
theorem OwnV.unover {e : TypeId} {H H1 X : DHeap} {l : List Int} {v : DVal} (h : OwnV e (Dl.over H X) l v H1) (d : Disj H X) : ∃ H2, OwnV e H l v H2 ∧ H1 = Dl.over H2 X ∧ Disj H2 X := by
  rcases h with ⟨rfl, rfl, rfl⟩ | ⟨r, pre, lo, rest, hr, rfl, hlo, rfl⟩
  · exact ⟨H, .inl ⟨rfl, rfl, rfl⟩, rfl, d⟩
  · obtain ⟨h1, h2⟩ := over_eq_none.1 hr
    exact ⟨_, .inr ⟨r, pre, lo, rest, h1, rfl, hlo, rfl⟩, upd_over_lo h2 _, d.lo h2 _⟩
theorem OwnV.cell1 {e : TypeId} {H H1 : DHeap} {l : List Int} {v : DVal} (h : OwnV e H l v H1) : v.cells = [v] ∧ v.one = true := by
  rcases h with ⟨_, rfl, _⟩ | ⟨_, _, _, _, _, rfl, _⟩ <;> exact ⟨rfl, rfl⟩
theorem over_sub {H X : DHeap} (d : Disj H X) : ∀ r o, H r = some o → Dl.over H X r = some o := fun r o h => by
  rw [over_hi (d.x (by simp [h]))]; exact h
theorem Disj.subl {H H2 X : DHeap} (d : Disj H2 X) (h : ∀ r o, H r = some o → H2 r = some o) : Disj H X := fun r hr => sub_none h (d r hr)
theorem Disj.neXY {H X : DHeap} (d : Disj H X) {a b : Nat} (ha : X a ≠ none) (hb : H b ≠ none) : a ≠ b := fun e => hb (e ▸ d a ha)

theorem Disj.at {Hi X : DHeap} (h : Disj Hi X) {r : Nat} (hr : X r ≠ none) (o : Option DObj) : Disj Hi (upd X r o) := h.hi (h r hr) o
/-- append of one int to row n. -/
theorem rows_append {e : TypeId} {H H2 : DHeap} {q : List (List Int)} {vs : List DVal} {n : Nat} (hr : OwnRows e H q vs H2) (hn : n < q.length) : ∃ v, vs[n]? = some v ∧ v.cells = [v] ∧ v.one = true ∧
    ∀ {bytes : Nat} {dst : Option Nat} {K : DK} {env : Nat → DVal} {t : Int} {X : DHeap}, Disj H2 X → (q[n].length + 1) * bytes ≤ 35184372088832 →
      (∀ v' H2', OwnRows e H (q.set n (q[n] ++ [t])) (vs.set n v') H2' → Disj H2' X → v'.cells = [v'] → v'.one = true → K ⟨updO env dst v', over H2' X⟩) → dAppendTo e 1 bytes 1 [dI t] dst v K ⟨env, over H2 X⟩ := by
  obtain ⟨v, H1, hv, ho, hput⟩ := hr.focus n hn
  refine ⟨v, hv, ho.cell1.1, ho.cell1.2, fun {bytes dst K env t X} d hb hK => ?_⟩
  refine (ho.over d).append1 hb fun v' H' h' => ?_
  obtain ⟨H3, h1, rfl, h3⟩ := h'.unover (d.subl ho.sub)
  exact hK v' H3 (hput _ _ _ h1) h3 h1.cell1.1 h1.cell1.2

/-- The first of row n. -/
theorem rows_front {e : TypeId} {H H2 X : DHeap} {q : List (List Int)} {vs : List DVal} {n : Nat} {u : Int} {l : List Int} (hr : OwnRows e H q vs H2) (hn : n < q.length) (hq : q[n] = u :: l) (d : Disj H2 X) :
    ∃ r off lo cs, vs[n]? = some (.oslice 1 r off (l.length + 1) (lo + 1)) ∧ over H2 X r = some (.cells cs e) ∧ cs[off]? = some (dI u) ∧ l.length ≤ lo ∧ OwnRows e H (q.set n l) (vs.set n (.oslice 1 r (off + 1) l.length lo)) H2 ∧ H2 r ≠ none := by
  obtain ⟨v, H1, hv, ho, hput⟩ := hr.focus n hn
  rw [hq] at ho
  rcases ho with ⟨h, _⟩ | ⟨r, pre, lo, rest, h1, rfl, hlo, rfl⟩
  · cases h
  · have hx : X r = none := d.x (by simp [upd])
    simp only [List.length_cons] at hlo
    refine ⟨r, pre.length, l.length + rest.length, _, ?_, by rw [over_hi hx]; exact upd_same _ _ _, by simp, by omega, hput _ _ _ (.inr ⟨r, pre ++ [dI u], l.length + rest.length, rest, h1, ?_, rfl, ?_⟩), by simp [upd]⟩
    · rw [hv, ← hlo]; simp; omega
    · simp
    · simp
theorem rows_get {e : TypeId} {H H2 : DHeap} {q : List (List Int)} {vs : List DVal} {n : Nat} (hr : OwnRows e H q vs H2) (hn : n < q.length) : ∃ v, vs[n]? = some v ∧ ViewsR H2 v q[n] ∧ (q[n] = [] ∧ v = .nilSlice ∨ ∃ r off lo, v = .oslice 1 r off q[n].length lo) := by
  obtain ⟨v, H1, hv, ho, hput⟩ := hr.focus n hn
  refine ⟨v, hv, ho.viewsR, ?_⟩
  rcases ho with ⟨h1, h2, _⟩ | ⟨r, pre, lo, rest, h1, rfl, hlo, rfl⟩
  · exact .inl ⟨h1, h2⟩
  · exact .inr ⟨_, _, _, rfl⟩
/-- Row n is another one. -/
theorem rows_put {e : TypeId} {H H2 H3 X : DHeap} {q : List (List Int)} {vs : List DVal} {n : Nat} {l : List Int} {v : DVal} (hr : OwnRows e H q vs H2) (hn : n < q.length) (d : Disj H2 X) (hv : OwnV e (over H2 X) l v H3) :
    ∃ H4 H5, H3 = over H4 X ∧ Disj H4 X ∧ OwnRows e H (q.set n l) (vs.set n v) H5 ∧ ∀ r o, H5 r = some o → H4 r = some o := by
  obtain ⟨H4, h1, rfl, h3⟩ := hv.unover d
  obtain ⟨u, H1, _, ho, hput⟩ := hr.focus n hn
  obtain ⟨H5, k1, k2⟩ := ho.drop h1
  exact ⟨H4, H5, rfl, h3, hput _ _ _ k1, k2⟩
theorem rows_start (e : TypeId) (H : DHeap) : ∀ n, OwnRows e H (List.replicate n []) (List.replicate n .nilSlice) H
  | 0 => ⟨rfl, rfl⟩
  | n + 1 => ⟨.nilSlice, List.replicate n .nilSlice, H, rfl, rows_start e H n, .inl ⟨rfl, rfl, rfl⟩⟩
theorem eo_views {e e' : TypeId} {H H5 H2 X : DHeap} {q : List (List Int)} {vs : List DVal} {rm : Nat} (hr : OwnRows e H q vs H5) (hs : ∀ r o, H5 r = some o → H2 r = some o) (d : Disj H2 X) (hX : X rm = some (.cells vs e')) {n : Nat} (hn : q.length = n) : Views (over H2 X) (.oslice 1 rm 0 n n) q := by
  subst hn
  have h2 : H2 rm = none := d rm (by simp [hX])
  have h5 : H5 rm = none := sub_none hs h2
  refine (OwnLL.views (e := e) (e' := e') (H := H) (H1 := upd H5 rm (some (.cells vs e'))) (.inr ⟨rm, vs, H5, hr, h5, rfl, rfl⟩)).up fun r o h => ?_
  simp only [upd] at h
  split at h
  · rename_i e1; subst e1; rw [over_x hX]; exact h
  · exact over_sub d r o (hs r o h)
theorem look_em {l : List (Int × Nat)} {q : List (List Int)} (h : AtQ l q) (t : Int) : ∃ (inn : Nat) (b : Bool),
    (∀ dst K s, dput dst (.tuple [dI inn, .bool b]) K s → dLookF (em l) true dst (some (dI 0)) (dFind (dI t) (em l) 0) K s) ∧
    (b = false → t ∉ q.flatten ∧ dFind (dI t) (em l) 0 = some none) ∧ (b = true → ∃ i : Nat, l[i]? = some (t, inn) ∧ t ∈ q.getD inn [] ∧ dFind (dI t) (em l) 0 = some (some i)) := by
  by_cases ht : t ∈ q.flatten
  · obtain ⟨i, e, hi, he⟩ := h.get ht
    have hf : dFind (dI t) (em l) 0 = some (some i) := by have := dFind_at hi h.nodup 0; rwa [Nat.zero_add] at this
    refine ⟨e, true, fun dst K s hk => ?_, fun h => (by cases h), fun _ => ⟨i, hi, he, hf⟩⟩
    rw [hf]
    exact ⟨_, em_get hi, hk⟩
  · have hf : dFind (dI t) (em l) 0 = some none := dFind_none (fun k => ht (h.there.1 k)) 0
    refine ⟨0, false, fun dst K s hk => ?_, fun _ => ⟨ht, hf⟩, fun h => (by cases h)⟩
    rw [hf]
    exact hk
end Go.Dl

-- The frame of a call: what a callee makes with no memory of the caller's at hand, it makes beside it.
namespace Go.Dl
open Go Go.Proofs
set_option maxRecDepth 10000

theorem DCalls.frame {P : Program} {G : Nat → DVal} {f : FuncId} {args args' : List DVal} {H : DHeap} {R : DEnd → DHeap → Prop} (h : DCalls P G f args' h0 R)
    (hb : ∀ w vs, SimHeap w H → RelL w H args vs → RelL w h0 args' vs) (hR : ∀ e X, R e X → ∃ v, e = .ret v ∧ loose v = true ∧ Loose h0 X) : DCalls P G f args H (fun e H' => ∃ X, R e X ∧ Disj H X ∧ H' = over H X) := by
  refine ⟨h.1, fun vs w hv hH hg => ?_⟩
  have hg0 : GOk G w h0 := fun g => Rel.lasts (lasts_h0 H w) _ _ (hg g)
  refine (h.2 vs w (hb w vs hH hv) (fun r o hr => by cases hr) hg0).mono fun x w' ⟨e', X, r, k1, k2, k3⟩ => ?_
  obtain ⟨v, rfl, hl, hX⟩ := hR _ _ r
  have hown : ∀ b, X b ≠ none → w.heap.size ≤ b := fun b hb => (k3.own b hb).resolve_left (fun k => k rfl)
  have hd : Disj H X := fun b hb => by
    cases e1 : H b with
    | none => rfl
    | some o => have := hH.lt (r := b) (by simp [e1]); have := hown b hb; omega
  have hE : Ext H w (over H X) w' := ⟨k3.os, k3.tape, k3.output, k3.size, fun b hb _ => k3.block b hb rfl, fun b hb => by
    by_cases e1 : X b = none
    · rw [over_hi e1] at hb; exact .inl hb
    · exact .inr (hown b e1), k3.keep, k3.fz⟩
  refine ⟨.ret v, over H X, ⟨X, r, hd, rfl⟩, ?_, ?_, hE⟩
  · cases k1 with
    | ret d x hx => exact .ret _ _ (loose_rel _ _ hl hx)
  · intro b o ho
    cases e1 : X b with
    | none =>
      rw [over_hi e1] at ho
      rw [k3.block b (hH.lt (by simp [ho])) rfl]
      exact (hH b o ho).lasts hE.lasts
    | some o' =>
      rw [over_x e1] at ho; cases ho
      have hlo : looseO o = true := (hX b o e1).resolve_left (fun k => by cases k)
      have hr := k2 b o e1
      cases o with
      | cells cs e =>
        obtain ⟨xs, c, fz', h1, h2, h3, h4⟩ := hr
        exact ⟨xs, c, fz', h1, h2, looses_rel _ _ hlo h3, h4⟩
      | loop _ _ _ => cases hlo
      | map es =>
        obtain ⟨ms, c, h1, h2⟩ := hr
        refine ⟨ms, c, h1, ?_⟩
        simp only [looseO, List.all_eq_true, Bool.and_eq_true] at hlo
        clear h1 e1
        generalize ms.toList = l at h2
        induction es generalizing l with
        | nil => exact h2
        | cons p es ih =>
          obtain ⟨m, ms', rfl, g1, g2, g3⟩ := h2
          exact ⟨m, ms', rfl, loose_rel _ _ (hlo p (by simp)).1 g1, loose_rel _ _ (hlo p (by simp)).2 g2, ih (fun q hq => hlo q (List.mem_cons_of_mem _ hq)) _ g3⟩

/-- A call that only looks, and whose result points to nothing. -/
theorem DCalls.lent {P : Program} {G : Nat → DVal} {f : FuncId} {args args' : List DVal} {H : DHeap} {v : DVal} (h : DCalls P G f args' h0 (DRet v h0))
    (hb : ∀ w vs, SimHeap w H → RelL w H args vs → RelL w h0 args' vs) (hv : loose v = true) : DCalls P G f args H (DRet v H) :=
  (h.frame hb (fun e X hr => ⟨v, hr.1, hv, by rw [hr.2]; exact .refl _⟩)).mono fun e H' ⟨X, hr, _, hH⟩ => ⟨hr.1, by rw [hH, hr.2, over_h0]⟩

theorem OwnV.lift {e : TypeId} {H X0 X : DHeap} {l : List Int} {v : DVal} (h : OwnV e X0 l v X) (d : Disj H X) : OwnV e (Dl.over H X0) l v (Dl.over H X) := by
  rcases h with ⟨rfl, rfl, rfl⟩ | ⟨r, pre, lo, rest, hr, rfl, hlo, rfl⟩
  · exact .inl ⟨rfl, rfl, rfl⟩
  · exact .inr ⟨r, pre, lo, rest, over_eq_none.2 ⟨d r (by simp [upd]), hr⟩, rfl, hlo, (upd_over _ _ _ _).symm⟩
theorem Disj.mono {H X X' : DHeap} (d : Disj H X) (h : ∀ r o, X' r = some o → X r = some o) : Disj H X' := fun r hr => d r (by
  cases e : X' r with
  | none => exact absurd e hr
  | some o => rw [h r o e]; simp)
theorem OwnRows.lift {e : TypeId} {H X0 : DHeap} : ∀ {q : List (List Int)} {vs : List DVal} {X : DHeap}, OwnRows e X0 q vs X → Disj H X → OwnRows e (over H X0) q vs (over H X)
  | [], vs, X, h, _ => by obtain ⟨rfl, rfl⟩ := h; exact ⟨rfl, rfl⟩
  | l :: q, vs, X, h, d => by
    obtain ⟨v, vs', X1, rfl, h1, h2⟩ := h
    exact ⟨v, vs', over H X1, rfl, h1.lift (d.mono h2.sub), h2.lift d⟩
theorem OwnLL.lift {e e' : TypeId} {H X0 X : DHeap} {q : List (List Int)} {v : DVal} (h : OwnLL e e' X0 q v X) (d : Disj H X) : OwnLL e e' (over H X0) q v (over H X) := by
  rcases h with ⟨rfl, rfl, rfl⟩ | ⟨ro, vs, X1, h1, h2, rfl, rfl⟩
  · exact .inl ⟨rfl, rfl, rfl⟩
  · have hX1 : ∀ r o, X1 r = some o → upd X1 ro (some (.cells vs e')) r = some o := fun r o hr => by
      have : r ≠ ro := fun e => by rw [e, h2] at hr; cases hr
      simp [upd, this, hr]
    exact .inr ⟨ro, vs, over H X1, h1.lift (d.mono hX1), over_eq_none.2 ⟨d ro (by simp [upd]), h2⟩, rfl, (upd_over _ _ _ _).symm⟩
theorem Loose.lift {H X : DHeap} (h : Loose h0 X) : Loose H (over H X) := fun r o hr => by
  cases e : X r with
  | none => rw [over_hi e] at hr; exact .inl hr
  | some o' =>
    rw [over_x e] at hr; cases hr
    exact .inr ((h r o e).resolve_left (fun k => by cases k))

/-- Own rows are seen as memory that lasts. -/
theorem OwnV.ghostSub {e : TypeId} {H H0 : DHeap} {l : List Int} {v : DVal} (h : OwnV e H l v H0) : ∀ w, SimHeap w H0 → SimHeap w H := fun w hw => (h.ghost w hw).1
theorem OwnLL.ghost {e e' : TypeId} {H H1 : DHeap} {q : List (List Int)} {v : DVal} (h : OwnLL e e' H q v H1) : GhostE H1 v H (dIss q) := fun w hw => by
  have hs := h.sub
  refine ⟨fun r o ho => (hw r o (hs r o ho)).lasts (lasts_sub hs w), fun b hb e => hb (sub_none hs e), fun x hx => ?_⟩
  rcases h with ⟨rfl, rfl, rfl⟩ | ⟨ro, vs, H2, h1, h2, rfl, rfl⟩
  · exact DLe.nil _ _ _ hx
  · have g := GhostE.fz (v := .oslice 1 ro 0 q.length q.length) (upd_same H2 ro (some (.cells vs e')))
    rw [upd_none_self h2] at g
    simp only [Dl.fz, if_pos, List.drop_zero, Nat.mul_one] at g
    rw [← h1.len, List.take_length] at g
    obtain ⟨g1, _, g3⟩ := g w hw
    have hy := g3 x (by rw [h1.len]; exact hx)
    have rows : ∀ {q : List (List Int)} {vs : List DVal} {H2 : DHeap}, OwnRows e H q vs H2 → SimHeap w H2 → ∀ xs, RelL w H2 vs xs → RelL w H (q.map dIs) xs := by
      intro q
      induction q with
      | nil => intro vs H2 h _ xs hx; obtain ⟨rfl, rfl⟩ := h; simpa [RelL] using hx
      | cons l q ih =>
        intro vs H2 h hw xs hx
        obtain ⟨u, vs', H3, rfl, k1, k2⟩ := h
        simp only [RelL, List.map_cons] at hx ⊢
        obtain ⟨y, ys, rfl, m1, m2⟩ := hx
        obtain ⟨n1, n2, n3⟩ := k2.ghost w hw
        exact ⟨y, ys, rfl, Rel.lasts (lasts_sub k1.sub w) _ _ (n3 y m1), ih k1 n1 ys (RelL.lasts (lasts_sub k2.sub w) _ _ m2)⟩
    simp only [Rel, dIss] at hy ⊢
    obtain ⟨a, cap, rfl, hle, k⟩ := hy
    refine ⟨a, cap, by rw [h1.len], by rw [← h1.len]; exact hle, ?_⟩
    rcases k with rfl | ⟨b, o, ys, rfl, k1, k2⟩
    · refine .inl ?_
      have := h1.len
      cases q with
      | nil => rfl
      | cons l q => simp at this
    · exact .inr ⟨b, o, ys, rfl, k1.lasts (lasts_sub h1.sub w), rows h1 g1 ys k2⟩
/-- Among other values that point nowhere. -/
theorem GhostE.sub1 {H H' : DHeap} {v v' : DVal} (h : GhostE H v H' v') {pre post : List DVal} (hp : loose.looses pre = true) (hq : loose.looses post = true) (w : World) (hw : SimHeap w H) : ∀ xs, RelL w H (pre ++ v :: post) xs → RelL w H' (pre ++ v' :: post) xs := by
  intro xs hx
  have e : xs = xs.take pre.length ++ xs.drop pre.length := (List.take_append_drop _ _).symm
  have h1 := hx.take pre.length
  have h2 := hx.drop pre.length
  rw [List.take_left] at h1
  rw [List.drop_left] at h2
  rw [e]
  refine (looses_rel _ _ hp h1).append ?_
  simp only [RelL] at h2 ⊢
  obtain ⟨y, ys, h3, h4, h5⟩ := h2
  rw [h3]
  exact ⟨y, ys, rfl, (h w hw).2.2 y h4, looses_rel _ _ hq h5⟩
theorem GhostE.agg1 {H H' : DHeap} {v v' : DVal} (h : GhostE H v H' v') {pre post : List DVal} (hp : loose.looses pre = true) (hq : loose.looses post = true) : GhostE H (.agg (pre ++ v :: post)) H' (.agg (pre ++ v' :: post)) := fun w hw =>
  ⟨(h w hw).1, (h w hw).2.1, fun x hx => by
    simp only [Rel] at hx ⊢
    obtain ⟨xs, rfl, hl⟩ := hx
    exact ⟨xs, rfl, h.sub1 hp hq w hw _ hl⟩⟩
theorem GhostE.tuple1 {H H' : DHeap} {v v' : DVal} (h : GhostE H v H' v') {pre post : List DVal} (hp : loose.looses pre = true) (hq : loose.looses post = true) : GhostE H (.tuple (pre ++ v :: post)) H' (.tuple (pre ++ v' :: post)) := fun w hw =>
  ⟨(h w hw).1, (h w hw).2.1, fun x hx => by
    simp only [Rel] at hx ⊢
    obtain ⟨xs, rfl, hl⟩ := hx
    exact ⟨xs, rfl, h.sub1 hp hq w hw _ hl⟩⟩

-- entry, with queues that are lent -----------------------------------------------------------------------------------------------
theorem views_args {H1 : DHeap} {v : DVal} {q : List (List Int)} (hv : Views H1 v q) {ds : List DVal} : ∀ w vs, SimHeap w H1 → RelL w H1 (v :: ds) vs → RelL w h0 (dIss q :: ds) vs := fun w vs hw hx => by
  simp only [RelL] at hx ⊢
  obtain ⟨y, ys, rfl, k1, k2⟩ := hx
  exact ⟨y, ys, rfl, hv w y hw k1, RelL.lasts (lasts_h0 _ w) _ _ k2⟩
theorem loose_findD (q : List (List Int)) (t : Int) : loose (findD q t) = true := by
  unfold findD
  split
  · split <;> rfl
  · rfl
theorem loose_openD (q : List (List Int)) (o : List Bool) : loose (openD q o) = true := by
  unfold openD
  split
  · split <;> rfl
  · rfl
theorem OwnLL.loose1 {e e' : TypeId} {H H1 : DHeap} {q : List (List Int)} {v : DVal} (h : OwnLL e e' H q v H1) : loose v = true := by
  rcases h with ⟨_, rfl, _⟩ | ⟨_, _, _, _, _, rfl, _⟩ <;> rfl
section
variable (G : Nat → DVal) (q : List (List Int)) (v : DVal) (H : DHeap) (hv : Views H v q) (hq : q.length ≤ 1099511627776)
include hv hq
theorem find_lent (t : Int) (hl : ∀ l ∈ q, l.length ≤ 1099511627776) : DCalls Try.prog G 21 [v, dI t] H (DRet (findD q t) H) :=
  (find_spec G q t h0 hq hl).lent (views_args hv) (loose_findD q t)
theorem open_lent (o : List Bool) (hl : ∀ l ∈ q, l.length ≤ 1099511627776) (ho : o.length ≤ 1099511627776) : DCalls Try.prog G 25 [v, dBs o] H (DRet (openD q o) H) :=
  (open_spec G q o h0 hq hl ho).lent (views_args hv) (loose_openD q o)
theorem take_lent (e : Int) (hl : ∀ l ∈ q, l.length ≤ 1000000000) :
    DCalls Try.prog G 13 [v, dI e] H fun x H' => ∃ u, x = .ret (.tuple [u, dI (takeL q e).2.1, dI (takeL q e).2.2]) ∧ OwnLL 3 37 H (takeL q e).1 u H' ∧ Loose H H' :=
  ((take_own G q e h0 hq hl).frame (views_args hv) (fun x X ⟨u, hx, hu, hX⟩ => ⟨_, hx, by simp [loose, loose.looses, hu.loose1, dI], hX⟩)).mono fun x H' ⟨X, ⟨u, hx, hu, hX⟩, hd, hH⟩ => ⟨u, hx, by rw [hH]; exact hu.lift hd, by rw [hH]; exact hX.lift⟩
theorem put_lent (e t : Int) (hl : ∀ l ∈ q, l.length ≤ 1000000000) :
    DCalls Try.prog G 11 [v, dI e, dI t] H fun x H' => ∃ u, x = .ret (.tuple [u, dI (putL q e t).2]) ∧ OwnLL 3 37 H (putL q e t).1 u H' ∧ Loose H H' :=
  ((put_own G q e t h0 hq hl).frame (views_args hv) (fun x X ⟨u, hx, hu, hX⟩ => ⟨_, hx, by simp [loose, loose.looses, hu.loose1, dI], hX⟩)).mono fun x H' ⟨X, ⟨u, hx, hu, hX⟩, hd, hH⟩ => ⟨u, hx, by rw [hH]; exact hu.lift hd, by rw [hH]; exact hX.lift⟩
end
end Go.Dl

-- lock: May, open; the reference's May.
namespace Go.Dl
open Go Go.Proofs
set_option maxRecDepth 10000

structure PS where
  locked : Bool
  owner : Int
  q : List (List Int)
  deriving DecidableEq
def dPS (s : PS) : DVal := .agg [.bool s.locked, dI s.owner, dIss s.q]
def isTask (t : Int) : Bool := decide (0 ≤ t ∧ t < 32)
def mayS (s : PS) : Bool := mayQ s.q && (if s.locked then isTask s.owner && !decide (s.owner ∈ s.q.flatten) else decide (s.owner = 0))
def ZPS : PS := ⟨false, 0, []⟩
attribute [go_sem] dPS List.getElem?_toArray List.getElem?_cons_zero List.getElem?_cons_succ

theorem ltask_spec (G : Nat → DVal) (t : Int) (H : DHeap) : DCalls Try.prog G 79 [dI t] H (DRet (.bool (isTask t)) H) := by
  refine dcalls_intro Try.func79 Try.call79 rfl (by kernel_rfl) ?_
  by_cases c1 : 0 ≤ t
  · by_cases c2 : t < 32
    · simp (disch := omega) only [go_sem, Nat.reduceEqDiff, Nat.reduceAdd, Nat.reduceMul, Nat.reduceSub, Nat.reduceLeDiff, ↓reduceIte, reduceCtorEq, Int.reduceAdd, Int.reduceSub, Int.reduceMul, Int.reduceNeg, Int.reduceToNat, List.reduceReplicate]
      exact DFin.refl ⟨by rw [isTask, decide_eq_true (by omega)], rfl⟩
    · simp (disch := omega) only [go_sem, Nat.reduceEqDiff, Nat.reduceAdd, Nat.reduceMul, Nat.reduceSub, Nat.reduceLeDiff, ↓reduceIte, reduceCtorEq, Int.reduceAdd, Int.reduceSub, Int.reduceMul, Int.reduceNeg, Int.reduceToNat, List.reduceReplicate]
      exact DFin.refl ⟨by rw [isTask, decide_eq_false (by omega)], rfl⟩
  · simp (disch := omega) only [go_sem, Nat.reduceEqDiff, Nat.reduceAdd, Nat.reduceMul, Nat.reduceSub, Nat.reduceLeDiff, ↓reduceIte, reduceCtorEq, Int.reduceAdd, Int.reduceSub, Int.reduceMul, Int.reduceNeg, Int.reduceToNat, List.reduceReplicate]
    exact DFin.refl ⟨by rw [isTask, decide_eq_false (by omega)], rfl⟩
theorem rtask_spec (G : Nat → DVal) (t : Int) (H : DHeap) : DCalls Try.prog G 71 [dI t] H (DRet (.bool (isTask t)) H) := by
  refine dcalls_intro Try.func71 Try.call71 rfl (by kernel_rfl) ?_
  by_cases c1 : 0 ≤ t
  · by_cases c2 : t < 32
    · simp (disch := omega) only [go_sem, Nat.reduceEqDiff, Nat.reduceAdd, Nat.reduceMul, Nat.reduceSub, Nat.reduceLeDiff, ↓reduceIte, reduceCtorEq, Int.reduceAdd, Int.reduceSub, Int.reduceMul, Int.reduceNeg, Int.reduceToNat, List.reduceReplicate]
      exact DFin.refl ⟨by rw [isTask, decide_eq_true (by omega)], rfl⟩
    · simp (disch := omega) only [go_sem, Nat.reduceEqDiff, Nat.reduceAdd, Nat.reduceMul, Nat.reduceSub, Nat.reduceLeDiff, ↓reduceIte, reduceCtorEq, Int.reduceAdd, Int.reduceSub, Int.reduceMul, Int.reduceNeg, Int.reduceToNat, List.reduceReplicate]
      exact DFin.refl ⟨by rw [isTask, decide_eq_false (by omega)], rfl⟩
  · simp (disch := omega) only [go_sem, Nat.reduceEqDiff, Nat.reduceAdd, Nat.reduceMul, Nat.reduceSub, Nat.reduceLeDiff, ↓reduceIte, reduceCtorEq, Int.reduceAdd, Int.reduceSub, Int.reduceMul, Int.reduceNeg, Int.reduceToNat, List.reduceReplicate]
    exact DFin.refl ⟨by rw [isTask, decide_eq_false (by omega)], rfl⟩

/-- Is a task in a queue? -/
def waitsB (q : List (List Int)) (t : Int) : Bool := mayQ q && decide (t ∈ q.flatten)
theorem findD_waits (q : List (List Int)) (t : Int) : ∃ a b, findD q t = .tuple [dI a, dI b, .bool (waitsB q t)] := by
  unfold findD waitsB
  split
  · rename_i hm
    by_cases h : t ∈ q.flatten
    · obtain ⟨e, he⟩ := mem_flat.1 h
      rw [findP_some hm he]
      exact ⟨e, idx (q.getD e []) t, by simp only [hm, h, decide_true, Bool.and_self]⟩
    · rw [findP_no h]
      exact ⟨0, 0, by simp [hm, h]⟩
  · rename_i hm
    exact ⟨0, 0, by simp [hm]⟩
theorem waits_spec (G : Nat → DVal) (q : List (List Int)) (v : DVal) (t : Int) (H : DHeap) (hv : Views H v q) (hq : q.length ≤ 1099511627776) (hl : ∀ l ∈ q, l.length ≤ 1099511627776) : DCalls Try.prog G 80 [v, dI t] H (DRet (.bool (waitsB q t)) H) := by
  refine dcalls_intro Try.func80 Try.call80 rfl (by kernel_rfl) ?_
  obtain ⟨a, b, hf⟩ := findD_waits q t
  simp (disch := omega) only [go_sem, Nat.reduceEqDiff, Nat.reduceAdd, Nat.reduceMul, Nat.reduceSub, Nat.reduceLeDiff, ↓reduceIte, reduceCtorEq, Int.reduceAdd, Int.reduceSub, Int.reduceMul, Int.reduceNeg, Int.reduceToNat, List.reduceReplicate]
  refine (find_lent G q v _ hv hq t hl).mono ?_
  rintro _ H ⟨rfl, rfl⟩
  rw [hf]
  simp (disch := omega) only [go_sem, Nat.reduceEqDiff, Nat.reduceAdd, Nat.reduceMul, Nat.reduceSub, Nat.reduceLeDiff, ↓reduceIte, reduceCtorEq, Int.reduceAdd, Int.reduceSub, Int.reduceMul, Int.reduceNeg, Int.reduceToNat, List.reduceReplicate]
  exact DFin.refl ⟨rfl, rfl⟩

theorem lmay_spec (G : Nat → DVal) (s : PS) (H : DHeap) (hq : s.q.length ≤ 1099511627776) (hl : ∀ l ∈ s.q, l.length ≤ 1099511627776) : DCalls Try.prog G 58 [dPS s] H (DRet (.bool (mayS s)) H) := by
  obtain ⟨lo, o, q⟩ := s
  refine dcalls_intro Try.func58 Try.call58 rfl (by kernel_rfl) ?_
  simp (disch := omega) only [go_sem, Nat.reduceEqDiff, Nat.reduceAdd, Nat.reduceMul, Nat.reduceSub, Nat.reduceLeDiff, ↓reduceIte, reduceCtorEq, Int.reduceAdd, Int.reduceSub, Int.reduceMul, Int.reduceNeg, Int.reduceToNat, List.reduceReplicate]
  intro r hr; dsimp only at hr
  simp (disch := omega) only [go_sem, Nat.reduceEqDiff, Nat.reduceAdd, Nat.reduceMul, Nat.reduceSub, Nat.reduceLeDiff, ↓reduceIte, reduceCtorEq, Int.reduceAdd, Int.reduceSub, Int.reduceMul, Int.reduceNeg, Int.reduceToNat, List.reduceReplicate]
  cases lo with
  | false =>
    simp (disch := omega) only [go_sem, Nat.reduceEqDiff, Nat.reduceAdd, Nat.reduceMul, Nat.reduceSub, Nat.reduceLeDiff, ↓reduceIte, reduceCtorEq, Int.reduceAdd, Int.reduceSub, Int.reduceMul, Int.reduceNeg, Int.reduceToNat, List.reduceReplicate]
    refine (may_spec G q _ hq hl).mono ?_
    rintro _ H1 ⟨rfl, rfl⟩
    cases hm : mayQ q with
    | false =>
      simp (disch := omega) only [go_sem, Nat.reduceEqDiff, Nat.reduceAdd, Nat.reduceMul, Nat.reduceSub, Nat.reduceLeDiff, ↓reduceIte, reduceCtorEq, Int.reduceAdd, Int.reduceSub, Int.reduceMul, Int.reduceNeg, Int.reduceToNat, List.reduceReplicate, hr]
      exact DFin.dropA r hr (DFin.refl ⟨by simp [mayS, hm], rfl⟩)
    | true =>
      simp (disch := omega) only [go_sem, Nat.reduceEqDiff, Nat.reduceAdd, Nat.reduceMul, Nat.reduceSub, Nat.reduceLeDiff, ↓reduceIte, reduceCtorEq, Int.reduceAdd, Int.reduceSub, Int.reduceMul, Int.reduceNeg, Int.reduceToNat, List.reduceReplicate, hr]
      exact DFin.dropA r hr (DFin.refl ⟨by simp [mayS, hm], rfl⟩)
  | true =>
    simp (disch := omega) only [go_sem, Nat.reduceEqDiff, Nat.reduceAdd, Nat.reduceMul, Nat.reduceSub, Nat.reduceLeDiff, ↓reduceIte, reduceCtorEq, Int.reduceAdd, Int.reduceSub, Int.reduceMul, Int.reduceNeg, Int.reduceToNat, List.reduceReplicate]
    refine (may_spec G q _ hq hl).mono ?_
    rintro _ H1 ⟨rfl, rfl⟩
    cases hm : mayQ q with
    | false =>
      simp (disch := omega) only [go_sem, Nat.reduceEqDiff, Nat.reduceAdd, Nat.reduceMul, Nat.reduceSub, Nat.reduceLeDiff, ↓reduceIte, reduceCtorEq, Int.reduceAdd, Int.reduceSub, Int.reduceMul, Int.reduceNeg, Int.reduceToNat, List.reduceReplicate, hr]
      exact DFin.dropA r hr (DFin.refl ⟨by simp [mayS, hm], rfl⟩)
    | true =>
      simp (disch := omega) only [go_sem, Nat.reduceEqDiff, Nat.reduceAdd, Nat.reduceMul, Nat.reduceSub, Nat.reduceLeDiff, ↓reduceIte, reduceCtorEq, Int.reduceAdd, Int.reduceSub, Int.reduceMul, Int.reduceNeg, Int.reduceToNat, List.reduceReplicate, hr]
      refine (ltask_spec G o _).mono ?_
      rintro _ H1 ⟨rfl, rfl⟩
      cases ht : isTask o with
      | false =>
        simp (disch := omega) only [go_sem, Nat.reduceEqDiff, Nat.reduceAdd, Nat.reduceMul, Nat.reduceSub, Nat.reduceLeDiff, ↓reduceIte, reduceCtorEq, Int.reduceAdd, Int.reduceSub, Int.reduceMul, Int.reduceNeg, Int.reduceToNat, List.reduceReplicate, hr]
        exact DFin.dropA r hr (DFin.refl ⟨by simp [mayS, hm, ht], rfl⟩)
      | true =>
        simp (disch := omega) only [go_sem, Nat.reduceEqDiff, Nat.reduceAdd, Nat.reduceMul, Nat.reduceSub, Nat.reduceLeDiff, ↓reduceIte, reduceCtorEq, Int.reduceAdd, Int.reduceSub, Int.reduceMul, Int.reduceNeg, Int.reduceToNat, List.reduceReplicate, hr]
        refine (waits_spec G q (dIss q) o _ (.frozen _ _) hq hl).mono ?_
        rintro _ H1 ⟨rfl, rfl⟩
        simp (disch := omega) only [go_sem, Nat.reduceEqDiff, Nat.reduceAdd, Nat.reduceMul, Nat.reduceSub, Nat.reduceLeDiff, ↓reduceIte, reduceCtorEq, Int.reduceAdd, Int.reduceSub, Int.reduceMul, Int.reduceNeg, Int.reduceToNat, List.reduceReplicate, hr]
        exact DFin.dropA r hr (DFin.refl ⟨by simp [mayS, hm, ht, waitsB], rfl⟩)
end Go.Dl

-- The reading of chapter 32: a state.
namespace Go.Dl
open Go Go.RowKit Go.Proofs Go.Proofs.Ytimnmempnhjbfaa
section
variable {H : Type} {w : World}

/-- What was read of lists of ints is of this bulk. -/
def BulkQ (q : List (List Int)) (d : DataW H) : Prop := (q.map List.length).sum + q.length + 1 ≤ Rows.uptoBulk d

theorem reads_ps : Reads Try.prog H w 61 PS (fun s => [.bool s.locked, dI s.owner, dIss s.q]) (fun s d => BulkQ s.q d) := by
  have h := reads_struct (H := H) (w := w) Try.underlying61 (readsFs_cons (n := 1) (reads_bool Try.underlying4) rfl (by kernel_rfl) (readsFs_cons (n := 1) (reads_int Try.underlying3) rfl (by kernel_rfl)
    (readsFs_cons (n := 1) (reads_intss Try.underlying22 Try.underlying37 Try.underlying3) rfl (by kernel_rfl) (by
      rw [show Try.prog.cellsOf 61 = 0 + 1 + 1 + 1 by kernel_rfl]
      exact readsFs_nil _))))
  refine h.map fun x d hg => ⟨⟨x.1, x.2.1, x.2.2.1⟩, rfl, ?_⟩
  obtain ⟨ds, rfl, d1, ds1, rfl, g1, d2, ds2, rfl, g2, d3, ds3, rfl, g3, rfl⟩ := hg
  have := bulk_slsum List.length (fun x d h => bulk_sl h) g3
  simp only [BulkQ, Rows.uptoBulk, Rows.uptoBulkAll]
  omega
theorem ps_flat {q : List (List Int)} : q.flatten.length = (q.map List.length).sum := by simp
theorem ps_row {q : List (List Int)} {l : List Int} (h : l ∈ q) : l.length ≤ (q.map List.length).sum := le_sum (List.mem_map.2 ⟨l, h, rfl⟩)
end
end Go.Dl

-- The reading of LockSteps's argument.
namespace Go.Dl
open Go Go.RowKit Go.Proofs Go.Proofs.Ytimnmempnhjbfaa
section
variable {H : Type} {w : World}

theorem reads_args : Reads Try.prog H w 87 (PS × Int × Int × Int × Int × Int × List Int × List Bool × Unit) (fun x => [.bool x.1.locked, dI x.1.owner, dIss x.1.q, dI x.2.1, dI x.2.2.1, dI x.2.2.2.1, dI x.2.2.2.2.1, dI x.2.2.2.2.2.1, dIs x.2.2.2.2.2.2.1, dBs x.2.2.2.2.2.2.2.1])
    (fun x d => (x.1.q.map List.length).sum + x.1.q.length + x.2.2.2.2.2.2.1.length + x.2.2.2.2.2.2.2.1.length + 1 ≤ Rows.uptoBulk d) := by
  have hi := reads_int (H := H) (w := w) Try.underlying3
  have h := reads_struct (H := H) (w := w) Try.underlying87 (readsFs_cons (n := 3) reads_ps rfl (by kernel_rfl) (readsFs_cons (n := 1) hi rfl (by kernel_rfl) (readsFs_cons (n := 1) hi rfl (by kernel_rfl) (readsFs_cons (n := 1) hi rfl (by kernel_rfl)
    (readsFs_cons (n := 1) hi rfl (by kernel_rfl) (readsFs_cons (n := 1) hi rfl (by kernel_rfl) (readsFs_cons (n := 1) (reads_ints Try.underlying37 Try.underlying3) rfl (by kernel_rfl) (readsFs_cons (n := 1) (reads_bools Try.underlying40 Try.underlying4) rfl (by kernel_rfl) (by
      rw [show Try.prog.cellsOf 87 = 0 + 3 + 1 + 1 + 1 + 1 + 1 + 1 + 1 by kernel_rfl]
      exact readsFs_nil _)))))))))
  refine h.map fun x d hg => ⟨x, rfl, ?_⟩
  obtain ⟨ds, rfl, d0, ds0, rfl, g0, d1, ds1, rfl, g1, d2, ds2, rfl, g2, d3, ds3, rfl, g3, d4, ds4, rfl, g4, d5, ds5, rfl, g5, d6, ds6, rfl, g6, d7, ds7, rfl, g7, rfl⟩ := hg
  have a0 : (x.1.q.map List.length).sum + x.1.q.length + 1 ≤ Rows.uptoBulk d0 := g0
  have a6 := bulk_sl g6
  have a7 := bulk_sl g7
  simp only [Rows.uptoBulk, Rows.uptoBulkAll]
  omega
end
end Go.Dl

-- The reference's May of chapter 32; lock.open.
namespace Go.Dl
open Go Go.Proofs
set_option maxRecDepth 10000

theorem rlmay_spec (G : Nat → DVal) (s : PS) (H : DHeap) (hq : s.q.length ≤ 1099511627776) (hb : s.q.flatten.length ≤ 1099511627776) (hl : ∀ l ∈ s.q, l.length ≤ 1099511627776) : DCalls Try.prog G 36 [dPS s] H (DRet (.bool (mayS s)) H) := by
  obtain ⟨lo, o, q⟩ := s
  dsimp only at hq hl hb
  refine dcalls_intro Try.func36 Try.call36 rfl (by kernel_rfl) ?_
  simp (disch := omega) only [go_sem, Nat.reduceEqDiff, Nat.reduceAdd, Nat.reduceMul, Nat.reduceSub, Nat.reduceLeDiff, ↓reduceIte, reduceCtorEq, Int.reduceAdd, Int.reduceSub, Int.reduceMul, Int.reduceNeg, Int.reduceToNat, List.reduceReplicate]
  intro r hr; dsimp only at hr
  obtain ⟨a, b, hf⟩ := findD_waits q o
  simp (disch := omega) only [go_sem, Nat.reduceEqDiff, Nat.reduceAdd, Nat.reduceMul, Nat.reduceSub, Nat.reduceLeDiff, ↓reduceIte, reduceCtorEq, Int.reduceAdd, Int.reduceSub, Int.reduceMul, Int.reduceNeg, Int.reduceToNat, List.reduceReplicate]
  refine (rfind_spec G q o _ hq hb hl).mono ?_
  rintro _ H1 ⟨rfl, rfl⟩
  rw [hf]
  simp (disch := omega) only [go_sem, Nat.reduceEqDiff, Nat.reduceAdd, Nat.reduceMul, Nat.reduceSub, Nat.reduceLeDiff, ↓reduceIte, reduceCtorEq, Int.reduceAdd, Int.reduceSub, Int.reduceMul, Int.reduceNeg, Int.reduceToNat, List.reduceReplicate]
  refine (rmay_spec G q _ hq hb hl).mono ?_
  rintro _ H1 ⟨rfl, rfl⟩
  cases hm : mayQ q with
  | false =>
    simp (disch := omega) only [go_sem, Nat.reduceEqDiff, Nat.reduceAdd, Nat.reduceMul, Nat.reduceSub, Nat.reduceLeDiff, ↓reduceIte, reduceCtorEq, Int.reduceAdd, Int.reduceSub, Int.reduceMul, Int.reduceNeg, Int.reduceToNat, List.reduceReplicate, hr]
    exact DFin.dropA r hr (DFin.refl ⟨by simp [mayS, hm], rfl⟩)
  | true =>
    simp (disch := omega) only [go_sem, Nat.reduceEqDiff, Nat.reduceAdd, Nat.reduceMul, Nat.reduceSub, Nat.reduceLeDiff, ↓reduceIte, reduceCtorEq, Int.reduceAdd, Int.reduceSub, Int.reduceMul, Int.reduceNeg, Int.reduceToNat, List.reduceReplicate, hr]
    refine (rtask_spec G o _).mono ?_
    rintro _ H1 ⟨rfl, rfl⟩
    cases ht : isTask o with
    | false =>
      simp (disch := omega) only [go_sem, Nat.reduceEqDiff, Nat.reduceAdd, Nat.reduceMul, Nat.reduceSub, Nat.reduceLeDiff, ↓reduceIte, reduceCtorEq, Int.reduceAdd, Int.reduceSub, Int.reduceMul, Int.reduceNeg, Int.reduceToNat, List.reduceReplicate, hr]
      refine DFin.dropA r hr (DFin.refl ⟨?_, rfl⟩)
      have : ¬ o = 0 := fun e => by subst e; simp [isTask] at ht
      cases lo <;> simp [mayS, hm, ht, this]
    | true =>
      cases lo with
      | false =>
        by_cases h0 : o = 0
        · simp (disch := omega) only [go_sem, Nat.reduceEqDiff, Nat.reduceAdd, Nat.reduceMul, Nat.reduceSub, Nat.reduceLeDiff, ↓reduceIte, reduceCtorEq, Int.reduceAdd, Int.reduceSub, Int.reduceMul, Int.reduceNeg, Int.reduceToNat, List.reduceReplicate, hr]
          exact DFin.dropA r hr (DFin.refl ⟨by simp [mayS, hm, h0], rfl⟩)
        · simp (disch := omega) only [go_sem, Nat.reduceEqDiff, Nat.reduceAdd, Nat.reduceMul, Nat.reduceSub, Nat.reduceLeDiff, ↓reduceIte, reduceCtorEq, Int.reduceAdd, Int.reduceSub, Int.reduceMul, Int.reduceNeg, Int.reduceToNat, List.reduceReplicate, hr]
          exact DFin.dropA r hr (DFin.refl ⟨by simp [mayS, hm, h0], rfl⟩)
      | true =>
        cases hw : waitsB q o with
        | false =>
          simp (disch := omega) only [go_sem, Nat.reduceEqDiff, Nat.reduceAdd, Nat.reduceMul, Nat.reduceSub, Nat.reduceLeDiff, ↓reduceIte, reduceCtorEq, Int.reduceAdd, Int.reduceSub, Int.reduceMul, Int.reduceNeg, Int.reduceToNat, List.reduceReplicate, hr]
          refine DFin.dropA r hr (DFin.refl ⟨?_, rfl⟩)
          simp [waitsB, hm] at hw
          simp [mayS, hm, ht]; exact hw
        | true =>
          simp (disch := omega) only [go_sem, Nat.reduceEqDiff, Nat.reduceAdd, Nat.reduceMul, Nat.reduceSub, Nat.reduceLeDiff, ↓reduceIte, reduceCtorEq, Int.reduceAdd, Int.reduceSub, Int.reduceMul, Int.reduceNeg, Int.reduceToNat, List.reduceReplicate, hr]
          refine DFin.dropA r hr (DFin.refl ⟨?_, rfl⟩)
          simp [waitsB, hm] at hw
          simp [mayS, hm, ht, hw]

/-- What a valid state's own copy is: the object's block r, over rows of its own. -/
def OwnObj (H : DHeap) (s : PS) (r : Nat) (H' : DHeap) : Prop :=
  ∃ u H1, OwnLL 3 37 H s.q u H1 ∧ Loose H H1 ∧ H1 r = none ∧ H' = upd H1 r (some (.cells [.bool s.locked, dI s.owner, u] 116))

/-- What open comes with. -/
def OpenR (s : PS) (H : DHeap) (x : DEnd) (H' : DHeap) : Prop := (mayS s = false ∧ x = .ret (.tuple [.nilPtr, .bool false]) ∧ H' = H) ∨ (mayS s = true ∧ ∃ r, x = .ret (.tuple [.optr r 0, .bool true]) ∧ OwnObj H s r H')
theorem lopen_spec (G : Nat → DVal) (s : PS) (H : DHeap) (hq : s.q.length ≤ 1099511627776) (hl : ∀ l ∈ s.q, l.length ≤ 1099511627776) :
    DCalls Try.prog G 73 [dPS s] H (OpenR s H) := by
  obtain ⟨lo, o, q⟩ := s
  dsimp only at hq hl
  refine dcalls_intro Try.func73 Try.call73 rfl (by kernel_rfl) ?_
  simp (disch := omega) only [go_sem, Nat.reduceEqDiff, Nat.reduceAdd, Nat.reduceMul, Nat.reduceSub, Nat.reduceLeDiff, ↓reduceIte, reduceCtorEq, Int.reduceAdd, Int.reduceSub, Int.reduceMul, Int.reduceNeg, Int.reduceToNat, List.reduceReplicate]
  intro rb hrb; dsimp only at hrb
  simp (disch := omega) only [go_sem, Nat.reduceEqDiff, Nat.reduceAdd, Nat.reduceMul, Nat.reduceSub, Nat.reduceLeDiff, ↓reduceIte, reduceCtorEq, Int.reduceAdd, Int.reduceSub, Int.reduceMul, Int.reduceNeg, Int.reduceToNat, List.reduceReplicate]
  refine (lmay_spec G ⟨lo, o, q⟩ _ hq hl).mono ?_
  rintro _ H1 ⟨rfl, rfl⟩
  cases hm : mayS ⟨lo, o, q⟩ with
  | false =>
    simp (disch := omega) only [go_sem, Nat.reduceEqDiff, Nat.reduceAdd, Nat.reduceMul, Nat.reduceSub, Nat.reduceLeDiff, ↓reduceIte, reduceCtorEq, Int.reduceAdd, Int.reduceSub, Int.reduceMul, Int.reduceNeg, Int.reduceToNat, List.reduceReplicate, hrb]
    exact DFin.dropA rb hrb (DFin.refl (.inl ⟨hm, rfl, rfl⟩))
  | true =>
    simp (disch := omega) only [go_sem, Nat.reduceEqDiff, Nat.reduceAdd, Nat.reduceMul, Nat.reduceSub, Nat.reduceLeDiff, ↓reduceIte, reduceCtorEq, Int.reduceAdd, Int.reduceSub, Int.reduceMul, Int.reduceNeg, Int.reduceToNat, List.reduceReplicate, hrb]
    intro r hr; dsimp only at hr
    rw [upd_eq_none] at hr
    simp (disch := omega) only [go_sem, Nat.reduceEqDiff, Nat.reduceAdd, Nat.reduceMul, Nat.reduceSub, Nat.reduceLeDiff, ↓reduceIte, reduceCtorEq, Int.reduceAdd, Int.reduceSub, Int.reduceMul, Int.reduceNeg, Int.reduceToNat, List.reduceReplicate, hr]
    obtain ⟨I, hI⟩ : ∃ I : Nat → (Nat → DVal) → DHeap → Prop, ∀ k env heap, I k env heap ↔ (env 1 = .optr rb 0 ∧ env 4 = .oslice 1 r 0 q.length q.length ∧ env 15 = dIss q ∧ env 16 = dI q.length ∧ env 17 = dI k ∧ k ≤ q.length ∧ heap rb = some (.cells [.bool lo, dI o, dIss q] 61) ∧ ∃ vs H1, OwnRows 3 H (q.take k) vs H1 ∧ Loose H H1 ∧ H1 rb = none ∧ H1 r = none ∧ heap = upd (upd H1 rb (some (.cells [.bool lo, dI o, dIss q] 61))) r (some (.cells (vs ++ List.replicate (q.length - k) .nilSlice) 37))) := ⟨_, fun _ _ _ => Iff.rfl⟩
    refine DLoop.run I (fun k => q.length - k) 0 ((hI _ _ _).2 ?_) ?_
    · simp (disch := omega) only [go_sem, Nat.reduceEqDiff, Nat.reduceAdd, Nat.reduceMul, Nat.reduceSub, Nat.reduceLeDiff, ↓reduceIte, reduceCtorEq, Int.reduceAdd, Int.reduceSub, Int.reduceMul, Int.reduceNeg, Int.reduceToNat, List.reduceReplicate, hr]
      (repeat' apply And.intro) <;> (try first | rfl | assumption | omega)
      exact ⟨[], H, ⟨rfl, rfl⟩, .refl _, hrb, hr.2.2, by simp⟩
    · intro k env heap hk
      obtain ⟨g1, g4, g15, g16, g17, hk, hob, vs, H1, hrows, hlo, hrb1, hr1, hheap⟩ := (hI _ _ _).1 hk
      have htl : (q.take k).length = k := by rw [List.length_take]; omega
      have hvl : vs.length = k := by rw [hrows.len, htl]
      by_cases hlt : k < q.length
      · simp (disch := omega) only [go_sem, Nat.reduceEqDiff, Nat.reduceAdd, Nat.reduceMul, Nat.reduceSub, Nat.reduceLeDiff, ↓reduceIte, reduceCtorEq, Int.reduceAdd, Int.reduceSub, Int.reduceMul, Int.reduceNeg, Int.reduceToNat, List.reduceReplicate, g1, g4, g15, g16, g17]
        refine (clone_own G q[k] _ (hl _ (List.getElem_mem hlt))).mono ?_
        rintro _ H2 ⟨u, rfl, hu⟩
        subst hheap
        have hnr : r ≠ rb := hr.1
        have hu' := hu.ownV
        have huL := hu.loose (looses_ints _)
        have k1 := hu'.keep (upd_same _ r _)
        have k2 := hu'.keep (r := rb) (by rw [upd_ne _ _ _ _ hnr.symm]; exact upd_same _ rb _)
        have hu1 := (hu'.unframe (by rw [upd_ne _ _ _ _ hnr]; exact hr1)).unframe hrb1
        have hL1 := (huL.unframe).unframe
        simp (disch := omega) only [go_sem, Nat.reduceEqDiff, Nat.reduceAdd, Nat.reduceMul, Nat.reduceSub, Nat.reduceLeDiff, ↓reduceIte, reduceCtorEq, Int.reduceAdd, Int.reduceSub, Int.reduceMul, Int.reduceNeg, Int.reduceToNat, List.reduceReplicate, g1, g4, g15, g16, g17, k1, hu'.cell1.1, hu'.cell1.2]
        refine ⟨by rw [List.length_append, List.length_replicate, hvl]; omega, k + 1, _, GhostS.refl _, (hI _ _ _).2 ?_, by omega⟩
        simp (disch := omega) only [go_sem, Nat.reduceEqDiff, Nat.reduceAdd, Nat.reduceMul, Nat.reduceSub, Nat.reduceLeDiff, ↓reduceIte, reduceCtorEq, Int.reduceAdd, Int.reduceSub, Int.reduceMul, Int.reduceNeg, Int.reduceToNat, List.reduceReplicate, g1, g4, g15, g16, g17, hnr, hnr.symm, k2]
        (repeat' apply And.intro) <;> (try first | rfl | assumption | omega)
        have hst := hrows.snoc hu1
        rw [show q.take k ++ [q[k]] = q.take (k + 1) by rw [List.take_add_one, List.getElem?_eq_getElem hlt]; rfl] at hst
        refine ⟨vs ++ [u], _, hst, hlo.trans hL1, by simp [upd], by simp [upd], ?_⟩
        have := splice_fill vs [u] (q.length - k) .nilSlice (by simp; omega)
        rw [hvl] at this
        rw [this]
        funext i
        simp only [upd]
        by_cases e1 : i = r
        · subst e1; simp; omega
        · by_cases e2 : i = rb
          · subst e2; simp [e1]; exact k2
          · simp [e1, e2]
      · simp (disch := omega) only [go_sem, Nat.reduceEqDiff, Nat.reduceAdd, Nat.reduceMul, Nat.reduceSub, Nat.reduceLeDiff, ↓reduceIte, reduceCtorEq, Int.reduceAdd, Int.reduceSub, Int.reduceMul, Int.reduceNeg, Int.reduceToNat, List.reduceReplicate, g1, g4, g15, g16, g17]
        have hkq : k = q.length := by omega
        subst hkq
        simp only [List.take_length, Nat.sub_self, List.replicate_zero, List.append_nil] at hrows hheap
        have hnr : r ≠ rb := hr.1
        subst hheap
        simp (disch := omega) only [go_sem, Nat.reduceEqDiff, Nat.reduceAdd, Nat.reduceMul, Nat.reduceSub, Nat.reduceLeDiff, ↓reduceIte, reduceCtorEq, Int.reduceAdd, Int.reduceSub, Int.reduceMul, Int.reduceNeg, Int.reduceToNat, List.reduceReplicate, hnr, hnr.symm, g1, g4]
        intro rc hrc; dsimp only at hrc
        simp only [upd_eq_none] at hrc
        simp (disch := omega) only [go_sem, Nat.reduceEqDiff, Nat.reduceAdd, Nat.reduceMul, Nat.reduceSub, Nat.reduceLeDiff, ↓reduceIte, reduceCtorEq, Int.reduceAdd, Int.reduceSub, Int.reduceMul, Int.reduceNeg, Int.reduceToNat, List.reduceReplicate, hnr, hnr.symm, hrc]
        refine DFin.sub (H' := upd (upd H1 r (some (.cells vs 37))) rc (some (.cells [.bool lo, dI o, .oslice 1 r 0 q.length q.length] 116))) (fun b p hb => ?_) (DFin.refl (.inr ⟨hm, rc, rfl, .oslice 1 r 0 q.length q.length, upd H1 r (some (.cells vs 37)), .inr ⟨r, vs, H1, hrows, hr1, rfl, rfl⟩, hlo.upd hrows.looses, by simp [upd, hrc], rfl⟩))
        simp only [upd] at hb ⊢
        by_cases e1 : b = rc
        · simpa [e1] using hb
        · by_cases e2 : b = r
          · subst e2; simpa [e1, hnr] using hb
          · by_cases e3 : b = rb
            · subst e3; simp [e1, e2, hrb1] at hb
            · simpa [e1, e2, e3] using hb
end Go.Dl

-- lock: Begin, New, Leave.
namespace Go.Dl
open Go Go.Proofs
set_option maxRecDepth 10000

theorem sub_refl (H : DHeap) : ∀ b o, H b = some o → H b = some o := fun _ _ h => h
theorem sub_upd {H H' : DHeap} (h : ∀ b o, H b = some o → H' b = some o) {r : Nat} (hr : H r = none) (x : Option DObj) : ∀ b o, H b = some o → upd H' r x b = some o := fun b o hb => by
  have : b ≠ r := fun e => by rw [e, hr] at hb; cases hb
  simp only [upd, if_neg this]; exact h b o hb
theorem OwnLL.unframe {e e' : TypeId} {H H1 : DHeap} {q : List (List Int)} {v : DVal} {r : Nat} {o : DObj} (h : OwnLL e e' (upd H r (some o)) q v H1) (hr : H r = none) : ∃ H2, OwnLL e e' H q v H2 ∧ H1 = upd H2 r (some o) ∧ H2 r = none := by
  rcases h with ⟨rfl, rfl, rfl⟩ | ⟨ro, vs, H2, h1, h2, rfl, rfl⟩
  · exact ⟨H, .inl ⟨rfl, rfl, rfl⟩, rfl, hr⟩
  · obtain ⟨H3, k1, rfl, k3⟩ := h1.unframe hr
    rw [upd_eq_none] at h2
    exact ⟨_, .inr ⟨ro, vs, H3, k1, h2.2.2, rfl, rfl⟩, (upd_swap h2.1 _ _ _), by simp [upd, h2.2.1, k3]⟩

/-- A state, over rows of the call's own, and an error. -/
def OwnR1 (s : PS) (e : Int) (H : DHeap) (x : DEnd) (H' : DHeap) : Prop := ∃ u, x = .ret (.tuple [.agg [.bool s.locked, dI s.owner, u], dI e]) ∧ OwnLL 3 37 H s.q u H'
theorem OwnR1.zero (e : Int) (H : DHeap) : OwnR1 ZPS e H (.ret (.tuple [.agg [.bool false, dI 0, .nilSlice], dI e])) H := ⟨_, rfl, .nil _ _ _⟩

def beginL (s : PS) (t a c : Int) : PS × Int :=
  if mayS s = false then (ZPS, 2) else if ¬ (0 ≤ t ∧ t < 32 ∧ 0 ≤ a ∧ a ≤ c ∧ c ≤ 31) then (ZPS, 4) else if waitsB s.q t then (ZPS, 7) else if s.locked then (ZPS, 8) else (⟨true, t, s.q⟩, 0)

theorem mayS_q {s : PS} (h : mayS s = true) : mayQ s.q = true := by
  unfold mayS at h; simp only [Bool.and_eq_true] at h; exact h.1
theorem begin_spec (G : Nat → DVal) (s : PS) (t a c : Int) (H : DHeap) (hq : s.q.length ≤ 1099511627776) (hl : ∀ l ∈ s.q, l.length ≤ 1099511627776) :
    DCalls Try.prog G 50 [dPS s, dI t, dI a, dI c] H (OwnR1 (beginL s t a c).1 (beginL s t a c).2 H) := by
  refine dcalls_intro Try.func50 Try.call50 rfl (by kernel_rfl) ?_
  simp (disch := omega) only [go_sem, Nat.reduceEqDiff, Nat.reduceAdd, Nat.reduceMul, Nat.reduceSub, Nat.reduceLeDiff, ↓reduceIte, reduceCtorEq, Int.reduceAdd, Int.reduceSub, Int.reduceMul, Int.reduceNeg, Int.reduceToNat, List.reduceReplicate]
  intro rb hrb; dsimp only at hrb
  simp (disch := omega) only [go_sem, Nat.reduceEqDiff, Nat.reduceAdd, Nat.reduceMul, Nat.reduceSub, Nat.reduceLeDiff, ↓reduceIte, reduceCtorEq, Int.reduceAdd, Int.reduceSub, Int.reduceMul, Int.reduceNeg, Int.reduceToNat, List.reduceReplicate]
  intro ro hro; dsimp only at hro
  rw [upd_eq_none] at hro
  simp (disch := omega) only [go_sem, Nat.reduceEqDiff, Nat.reduceAdd, Nat.reduceMul, Nat.reduceSub, Nat.reduceLeDiff, ↓reduceIte, reduceCtorEq, Int.reduceAdd, Int.reduceSub, Int.reduceMul, Int.reduceNeg, Int.reduceToNat, List.reduceReplicate, hro]
  refine (lopen_spec G s _ hq hl).mono ?_
  rintro _ H1 (⟨hm, rfl, rfl⟩ | ⟨hm, r, rfl, u, H2, hu, huL, hr, rfl⟩)
  · have hb : beginL s t a c = (ZPS, 2) := by simp [beginL, hm]
    rw [hb]
    simp (disch := omega) only [go_sem, Nat.reduceEqDiff, Nat.reduceAdd, Nat.reduceMul, Nat.reduceSub, Nat.reduceLeDiff, ↓reduceIte, reduceCtorEq, Int.reduceAdd, Int.reduceSub, Int.reduceMul, Int.reduceNeg, Int.reduceToNat, List.reduceReplicate, hro]
    exact DFin.sub (sub_upd (sub_upd (sub_refl H) hrb _) hro.2.2 _) (DFin.refl (OwnR1.zero _ _))
  · obtain ⟨H3, hu3, rfl, h3⟩ := hu.unframe (by simp [upd, hro])
    obtain ⟨H4, hu4, rfl, h4⟩ := hu3.unframe hrb
    simp only [upd_eq_none] at hr h3
    have hmq := mayS_q hm
    have hv := hu4.views
    simp (disch := omega) only [go_sem, Nat.reduceEqDiff, Nat.reduceAdd, Nat.reduceMul, Nat.reduceSub, Nat.reduceLeDiff, ↓reduceIte, reduceCtorEq, Int.reduceAdd, Int.reduceSub, Int.reduceMul, Int.reduceNeg, Int.reduceToNat, List.reduceReplicate, hro, hr, h3]
    refine (ltask_spec G t _).mono ?_
    rintro _ H1 ⟨rfl, rfl⟩
    have bad : ¬ (0 ≤ t ∧ t < 32 ∧ 0 ≤ a ∧ a ≤ c ∧ c ≤ 31) → beginL s t a c = (ZPS, 4) := fun h => by rw [beginL, if_neg (by simp [hm]), if_pos h]
    have hsub : ∀ b o, H b = some o → H4 b = some o := hu4.sub
    have hHo := hro.2.2
    have hHr := sub_none hsub hr.2.2.2.2
    cases ht : isTask t with
    | false =>
      rw [bad (fun h => by simp [isTask, h] at ht)]
      simp (disch := omega) only [go_sem, Nat.reduceEqDiff, Nat.reduceAdd, Nat.reduceMul, Nat.reduceSub, Nat.reduceLeDiff, ↓reduceIte, reduceCtorEq, Int.reduceAdd, Int.reduceSub, Int.reduceMul, Int.reduceNeg, Int.reduceToNat, List.reduceReplicate, hro, hr, h3]
      exact DFin.sub (by repeat (first | assumption | exact sub_refl _ | refine sub_upd ?_ (by assumption) _)) (DFin.refl (OwnR1.zero _ _))
    | true =>
      have ht' : 0 ≤ t ∧ t < 32 := by simpa [isTask] using ht
      by_cases c1 : a < 0
      · rw [bad (by omega)]
        simp (disch := omega) only [go_sem, Nat.reduceEqDiff, Nat.reduceAdd, Nat.reduceMul, Nat.reduceSub, Nat.reduceLeDiff, ↓reduceIte, reduceCtorEq, Int.reduceAdd, Int.reduceSub, Int.reduceMul, Int.reduceNeg, Int.reduceToNat, List.reduceReplicate, hro, hr, h3]
        exact DFin.sub (by repeat (first | assumption | exact sub_refl _ | refine sub_upd ?_ (by assumption) _)) (DFin.refl (OwnR1.zero _ _))
      by_cases c2 : c < a
      · rw [bad (by omega)]
        simp (disch := omega) only [go_sem, Nat.reduceEqDiff, Nat.reduceAdd, Nat.reduceMul, Nat.reduceSub, Nat.reduceLeDiff, ↓reduceIte, reduceCtorEq, Int.reduceAdd, Int.reduceSub, Int.reduceMul, Int.reduceNeg, Int.reduceToNat, List.reduceReplicate, hro, hr, h3]
        exact DFin.sub (by repeat (first | assumption | exact sub_refl _ | refine sub_upd ?_ (by assumption) _)) (DFin.refl (OwnR1.zero _ _))
      by_cases c3 : 31 < c
      · rw [bad (by omega)]
        simp (disch := omega) only [go_sem, Nat.reduceEqDiff, Nat.reduceAdd, Nat.reduceMul, Nat.reduceSub, Nat.reduceLeDiff, ↓reduceIte, reduceCtorEq, Int.reduceAdd, Int.reduceSub, Int.reduceMul, Int.reduceNeg, Int.reduceToNat, List.reduceReplicate, hro, hr, h3]
        exact DFin.sub (by repeat (first | assumption | exact sub_refl _ | refine sub_upd ?_ (by assumption) _)) (DFin.refl (OwnR1.zero _ _))
      simp (disch := omega) only [go_sem, Nat.reduceEqDiff, Nat.reduceAdd, Nat.reduceMul, Nat.reduceSub, Nat.reduceLeDiff, ↓reduceIte, reduceCtorEq, Int.reduceAdd, Int.reduceSub, Int.reduceMul, Int.reduceNeg, Int.reduceToNat, List.reduceReplicate, hro, hr, h3]
      refine (waits_spec G s.q u t _ (hv.up (sub_upd (sub_upd (sub_upd (sub_refl H4) h4 _) h3.2.2 _) hr.2.2.2.2 _)) hq hl).mono ?_
      rintro _ H1 ⟨rfl, rfl⟩
      cases hw : waitsB s.q t with
      | true =>
        rw [show beginL s t a c = (ZPS, 7) by rw [beginL, if_neg (by simp [hm]), if_neg (by omega), if_pos hw]]
        simp (disch := omega) only [go_sem, Nat.reduceEqDiff, Nat.reduceAdd, Nat.reduceMul, Nat.reduceSub, Nat.reduceLeDiff, ↓reduceIte, reduceCtorEq, Int.reduceAdd, Int.reduceSub, Int.reduceMul, Int.reduceNeg, Int.reduceToNat, List.reduceReplicate, hro, hr, h3]
        exact DFin.sub (by repeat (first | assumption | exact sub_refl _ | refine sub_upd ?_ (by assumption) _)) (DFin.refl (OwnR1.zero _ _))
      | false =>
        cases hlo : s.locked with
        | true =>
          rw [show beginL s t a c = (ZPS, 8) by rw [beginL, if_neg (by simp [hm]), if_neg (by omega), if_neg (by simp [hw]), if_pos hlo]]
          simp (disch := omega) only [go_sem, Nat.reduceEqDiff, Nat.reduceAdd, Nat.reduceMul, Nat.reduceSub, Nat.reduceLeDiff, ↓reduceIte, reduceCtorEq, Int.reduceAdd, Int.reduceSub, Int.reduceMul, Int.reduceNeg, Int.reduceToNat, List.reduceReplicate, hro, hr, h3]
          exact DFin.sub (by repeat (first | assumption | exact sub_refl _ | refine sub_upd ?_ (by assumption) _)) (DFin.refl (OwnR1.zero _ _))
        | false =>
          rw [show beginL s t a c = (⟨true, t, s.q⟩, 0) by rw [beginL, if_neg (by simp [hm]), if_neg (by omega), if_neg (by simp [hw]), if_neg (by simp [hlo])]]
          simp (disch := omega) only [go_sem, Nat.reduceEqDiff, Nat.reduceAdd, Nat.reduceMul, Nat.reduceSub, Nat.reduceLeDiff, ↓reduceIte, reduceCtorEq, Int.reduceAdd, Int.reduceSub, Int.reduceMul, Int.reduceNeg, Int.reduceToNat, List.reduceReplicate, hro, hr, h3, hu4.cell1.2]
          refine DFin.sub (H' := H4) (fun b o hb => ?_) (DFin.refl ?_)
          case refine_2 => exact ⟨u, rfl, hu4⟩
          have e1 : b ≠ r := none_ne hr.2.2.2.2 hb
          have e2 : b ≠ ro := none_ne h3.2.2 hb
          have e3 : b ≠ rb := none_ne h4 hb
          simp [upd, e1, e2, e3, hb]

def leaveL (s : PS) (t : Int) : PS × Int := if mayS s = false then (ZPS, 2) else if (removeL s.q t).2 ≠ 0 then (ZPS, (removeL s.q t).2) else (⟨s.locked, s.owner, (removeL s.q t).1⟩, 0)
theorem leave_spec (G : Nat → DVal) (s : PS) (t : Int) (H : DHeap) (hq : s.q.length ≤ 1099511627776) (hl : ∀ l ∈ s.q, l.length ≤ 1000000000) :
    DCalls Try.prog G 54 [dPS s, dI t] H (OwnR1 (leaveL s t).1 (leaveL s t).2 H) := by
  have hl' : ∀ l ∈ s.q, l.length ≤ 1099511627776 := fun l h => Nat.le_trans (hl l h) (by omega)
  refine dcalls_intro Try.func54 Try.call54 rfl (by kernel_rfl) ?_
  simp (disch := omega) only [go_sem, Nat.reduceEqDiff, Nat.reduceAdd, Nat.reduceMul, Nat.reduceSub, Nat.reduceLeDiff, ↓reduceIte, reduceCtorEq, Int.reduceAdd, Int.reduceSub, Int.reduceMul, Int.reduceNeg, Int.reduceToNat, List.reduceReplicate]
  intro rb hrb; dsimp only at hrb
  simp (disch := omega) only [go_sem, Nat.reduceEqDiff, Nat.reduceAdd, Nat.reduceMul, Nat.reduceSub, Nat.reduceLeDiff, ↓reduceIte, reduceCtorEq, Int.reduceAdd, Int.reduceSub, Int.reduceMul, Int.reduceNeg, Int.reduceToNat, List.reduceReplicate]
  intro ro hro; dsimp only at hro
  rw [upd_eq_none] at hro
  have hHo := hro.2.2
  have hsub := sub_refl H
  simp (disch := omega) only [go_sem, Nat.reduceEqDiff, Nat.reduceAdd, Nat.reduceMul, Nat.reduceSub, Nat.reduceLeDiff, ↓reduceIte, reduceCtorEq, Int.reduceAdd, Int.reduceSub, Int.reduceMul, Int.reduceNeg, Int.reduceToNat, List.reduceReplicate, hro]
  refine (lmay_spec G s _ hq hl').mono ?_
  rintro _ H1 ⟨rfl, rfl⟩
  cases hm : mayS s with
  | false =>
    rw [show leaveL s t = (ZPS, 2) by simp [leaveL, hm]]
    simp (disch := omega) only [go_sem, Nat.reduceEqDiff, Nat.reduceAdd, Nat.reduceMul, Nat.reduceSub, Nat.reduceLeDiff, ↓reduceIte, reduceCtorEq, Int.reduceAdd, Int.reduceSub, Int.reduceMul, Int.reduceNeg, Int.reduceToNat, List.reduceReplicate, hro]
    exact DFin.sub (by repeat (first | assumption | exact sub_refl _ | refine sub_upd ?_ (by assumption) _)) (DFin.refl (OwnR1.zero _ _))
  | true =>
    simp (disch := omega) only [go_sem, Nat.reduceEqDiff, Nat.reduceAdd, Nat.reduceMul, Nat.reduceSub, Nat.reduceLeDiff, ↓reduceIte, reduceCtorEq, Int.reduceAdd, Int.reduceSub, Int.reduceMul, Int.reduceNeg, Int.reduceToNat, List.reduceReplicate, hro]
    refine (remove_own G s.q t _ hq hl).mono ?_
    rintro _ H2 ⟨u, rfl, hu, huL⟩
    obtain ⟨H3, hu3, rfl, h3⟩ := hu.unframe (by simp [upd, hro])
    obtain ⟨H4, hu4, rfl, h4⟩ := hu3.unframe hrb
    simp only [upd_eq_none] at h3
    have hsub4 : ∀ b o, H b = some o → H4 b = some o := hu4.sub
    by_cases he : (removeL s.q t).2 = 0
    · rw [show leaveL s t = (⟨s.locked, s.owner, (removeL s.q t).1⟩, 0) by rw [leaveL, if_neg (by simp [hm]), if_neg (by simp [he])]]
      simp (disch := omega) only [go_sem, Nat.reduceEqDiff, Nat.reduceAdd, Nat.reduceMul, Nat.reduceSub, Nat.reduceLeDiff, ↓reduceIte, reduceCtorEq, Int.reduceAdd, Int.reduceSub, Int.reduceMul, Int.reduceNeg, Int.reduceToNat, List.reduceReplicate, hro, h3, he, hu4.cell1.1, hu4.cell1.2]
      refine DFin.sub (H' := H4) (fun b o hb => ?_) (DFin.refl ?_)
      case refine_2 => exact ⟨u, rfl, hu4⟩
      have e2 : b ≠ ro := none_ne h3.2.2 hb
      have e3 : b ≠ rb := none_ne h4 hb
      simp [upd, e2, e3, hb]
    · rw [show leaveL s t = (ZPS, (removeL s.q t).2) by rw [leaveL, if_neg (by simp [hm]), if_pos he]]
      simp (disch := omega) only [go_sem, Nat.reduceEqDiff, Nat.reduceAdd, Nat.reduceMul, Nat.reduceSub, Nat.reduceLeDiff, ↓reduceIte, reduceCtorEq, Int.reduceAdd, Int.reduceSub, Int.reduceMul, Int.reduceNeg, Int.reduceToNat, List.reduceReplicate, hro, h3, he]
      have hsub := hsub4
      exact DFin.sub (by repeat (first | assumption | exact sub_refl _ | refine sub_upd ?_ (by assumption) _)) (DFin.refl (OwnR1.zero _ _))

def newL (n : Int) : PS × Int := if 0 ≤ n ∧ n ≤ 8 then (⟨false, 0, List.replicate n.toNat []⟩, 0) else (ZPS, 4)
def dR1 (s : PS) (e : Int) : DVal := .tuple [dPS s, dI e]
theorem DLe.nilQ (a b : DVal) : DLe (.agg [a, b, .nilSlice]) (.agg [a, b, dIss []]) := DLe.agg (.cons (.refl _) (.cons (.refl _) (.cons .nilIss .nil)))
theorem dR1_zero (e : Int) : DLe (.tuple [.agg [.bool false, dI 0, .nilSlice], dI e]) (dR1 ZPS e) := DLe.tuple (.cons (.nilQ _ _) (.refl _))
theorem lnew_spec (G : Nat → DVal) (n : Int) (H : DHeap) : DCalls Try.prog G 42 [dI n] H (DRet (dR1 (newL n).1 (newL n).2) H) := by
  refine dcalls_intro Try.func42 Try.call42 rfl (by kernel_rfl) ?_
  simp (disch := omega) only [go_sem, Nat.reduceEqDiff, Nat.reduceAdd, Nat.reduceMul, Nat.reduceSub, Nat.reduceLeDiff, ↓reduceIte, reduceCtorEq, Int.reduceAdd, Int.reduceSub, Int.reduceMul, Int.reduceNeg, Int.reduceToNat, List.reduceReplicate]
  intro rb hrb; dsimp only at hrb
  simp (disch := omega) only [go_sem, Nat.reduceEqDiff, Nat.reduceAdd, Nat.reduceMul, Nat.reduceSub, Nat.reduceLeDiff, ↓reduceIte, reduceCtorEq, Int.reduceAdd, Int.reduceSub, Int.reduceMul, Int.reduceNeg, Int.reduceToNat, List.reduceReplicate]
  refine (new_spec G n _).mono ?_
  rintro _ H1 ⟨rfl, rfl⟩
  by_cases h : 0 ≤ n ∧ n ≤ 8
  · rw [newD, if_pos h, newL, if_pos h]
    simp (disch := omega) only [go_sem, Nat.reduceEqDiff, Nat.reduceAdd, Nat.reduceMul, Nat.reduceSub, Nat.reduceLeDiff, ↓reduceIte, reduceCtorEq, Int.reduceAdd, Int.reduceSub, Int.reduceMul, Int.reduceNeg, Int.reduceToNat, List.reduceReplicate, hrb]
    exact DFin.dropA rb hrb (DFin.refl ⟨rfl, rfl⟩)
  · rw [newD, if_neg h, newL, if_neg h]
    simp (disch := omega) only [go_sem, Nat.reduceEqDiff, Nat.reduceAdd, Nat.reduceMul, Nat.reduceSub, Nat.reduceLeDiff, ↓reduceIte, reduceCtorEq, Int.reduceAdd, Int.reduceSub, Int.reduceMul, Int.reduceNeg, Int.reduceToNat, List.reduceReplicate, hrb]
    exact DFin.dropA rb hrb (DFin.le (dR1_zero _) (DFin.refl ⟨rfl, rfl⟩))
end Go.Dl

-- lock: release, finish, End, Wait.
namespace Go.Dl
open Go Go.Proofs
set_option maxRecDepth 10000

/-- The same rows over less. -/
theorem OwnV.rebase {e : TypeId} {H B H1 : DHeap} {l : List Int} {v : DVal} (h : OwnV e B l v H1) (hs : ∀ r o, H r = some o → B r = some o) :
    ∃ H2, OwnV e H l v H2 ∧ (∀ r o, H2 r = some o → H1 r = some o) ∧ ∀ b, H2 b ≠ none → H b ≠ none ∨ B b = none := by
  rcases h with ⟨rfl, rfl, rfl⟩ | ⟨r, pre, lo, rest, hr, rfl, hlo, rfl⟩
  · exact ⟨H, .inl ⟨rfl, rfl, rfl⟩, hs, fun b hb => .inl hb⟩
  · refine ⟨_, .inr ⟨r, pre, lo, rest, sub_none hs hr, rfl, hlo, rfl⟩, fun b o hb => ?_, fun b hb => ?_⟩
    · simp only [upd] at hb ⊢
      split at hb
      · rename_i h1; rw [if_pos h1]; exact hb
      · rename_i h1; rw [if_neg h1]; exact hs b o hb
    · simp only [upd] at hb
      split at hb
      · rename_i h1; subst h1; exact .inr hr
      · exact .inl hb
theorem OwnRows.rebase {e : TypeId} {H B : DHeap} (hs : ∀ r o, H r = some o → B r = some o) : ∀ {q : List (List Int)} {vs : List DVal} {H1 : DHeap}, OwnRows e B q vs H1 →
    ∃ H2, OwnRows e H q vs H2 ∧ (∀ r o, H2 r = some o → H1 r = some o) ∧ ∀ b, H2 b ≠ none → H b ≠ none ∨ B b = none
  | [], vs, H1, h => by
    obtain ⟨rfl, rfl⟩ := h
    exact ⟨H, ⟨rfl, rfl⟩, hs, fun b hb => .inl hb⟩
  | l :: q, vs, H1, h => by
    obtain ⟨v, vs', H3, rfl, h1, h2⟩ := h
    obtain ⟨H4, k1, k2, k3⟩ := h1.rebase hs
    obtain ⟨H5, m1, m2, m3⟩ := h2.rebase k2
    refine ⟨H5, ⟨v, vs', H4, rfl, k1, m1⟩, m2, fun b hb => ?_⟩
    rcases m3 b hb with h | h
    · exact k3 b h
    · exact .inr (sub_none h1.sub h)
theorem OwnLL.rebase {e e' : TypeId} {H B H1 : DHeap} {q : List (List Int)} {v : DVal} (h : OwnLL e e' B q v H1) (hs : ∀ r o, H r = some o → B r = some o) :
    ∃ H2, OwnLL e e' H q v H2 ∧ (∀ r o, H2 r = some o → H1 r = some o) ∧ ∀ b, H2 b ≠ none → H b ≠ none ∨ B b = none := by
  rcases h with ⟨rfl, rfl, rfl⟩ | ⟨ro, vs, H3, h1, h2, rfl, rfl⟩
  · exact ⟨H, .inl ⟨rfl, rfl, rfl⟩, hs, fun b hb => .inl hb⟩
  · obtain ⟨H4, k1, k2, k3⟩ := h1.rebase hs
    refine ⟨_, .inr ⟨ro, vs, H4, k1, sub_none k2 h2, rfl, rfl⟩, fun b o hb => ?_, fun b hb => ?_⟩
    · simp only [upd] at hb ⊢
      split at hb
      · rename_i h1; rw [if_pos h1]; exact hb
      · rename_i h1; rw [if_neg h1]; exact k2 b o hb
    · simp only [upd] at hb
      split at hb
      · rename_i h3; subst h3; exact .inr (sub_none h1.sub h2)
      · exact k3 b hb
theorem Loose.rebase {H B H1 H2 : DHeap} (h : Loose B H1) (hs : ∀ r o, H2 r = some o → H1 r = some o) (hn : ∀ b, H2 b ≠ none → H b ≠ none ∨ B b = none) (hH : ∀ r o, H r = some o → H2 r = some o) : Loose H H2 := fun r o ho => by
  rcases hn r (by simp [ho]) with h1 | h1
  · cases e : H r with
    | none => exact absurd e h1
    | some o' => have := hH r o' e; rw [ho] at this; cases this; exact .inl rfl
  · rcases h r o (hs r o ho) with h2 | h2
    · rw [h1] at h2; cases h2
    · exact .inr h2

def releaseL (q : List (List Int)) (o : List Bool) : PS × Bool × Int × Int := match openP q o with
  | none => (⟨false, 0, q⟩, false, 0, 0)
  | some p => (⟨true, p.2, (takeL q p.1).1⟩, true, p.2, p.1)
def dH (h : Bool × Int × Int) : DVal := .agg [.bool h.1, dI h.2.1, dI h.2.2]
/-- What is handed over, the object over rows of its own. -/
def RelR (s : PS) (h : Bool × Int × Int) (r : Nat) (H : DHeap) (x : DEnd) (H' : DHeap) : Prop := x = .ret (dH h) ∧ OwnObj H s r H'

theorem release_spec (G : Nat → DVal) (lo : Bool) (ow : Int) (q : List (List Int)) (o : List Bool) (r : Nat) (u : DVal) (H H1 : DHeap) (hm : mayQ q = true) (hu : OwnLL 3 37 H q u H1) (huL : Loose H H1) (hr : H1 r = none) (ho : o.length ≤ 1099511627776) :
    DCalls Try.prog G 76 [.optr r 0, dBs o] (upd H1 r (some (.cells [.bool lo, dI ow, u] 116))) (RelR (releaseL q o).1 (releaseL q o).2 r H) := by
  have hq := mayQ_len hm
  have hl : ∀ l ∈ q, l.length ≤ 1000000000 := fun l h => by have := mayQ_row hm h; omega
  have hl' : ∀ l ∈ q, l.length ≤ 1099511627776 := fun l h => by have := mayQ_row hm h; omega
  have hv := hu.views
  refine dcalls_intro Try.func76 Try.call76 rfl (by kernel_rfl) ?_
  simp (disch := omega) only [go_sem, Nat.reduceEqDiff, Nat.reduceAdd, Nat.reduceMul, Nat.reduceSub, Nat.reduceLeDiff, ↓reduceIte, reduceCtorEq, Int.reduceAdd, Int.reduceSub, Int.reduceMul, Int.reduceNeg, Int.reduceToNat, List.reduceReplicate, dBs]
  intro rc hrc; dsimp only at hrc
  rw [upd_eq_none] at hrc
  simp (disch := omega) only [go_sem, Nat.reduceEqDiff, Nat.reduceAdd, Nat.reduceMul, Nat.reduceSub, Nat.reduceLeDiff, ↓reduceIte, reduceCtorEq, Int.reduceAdd, Int.reduceSub, Int.reduceMul, Int.reduceNeg, Int.reduceToNat, List.reduceReplicate, hrc]
  have hHc := hrc.2.2
  refine (open_lent G q u _ (hv.up ?sub) (by omega) o hl' ho).mono ?_
  case sub => exact (by repeat (first | assumption | exact sub_refl _ | refine sub_upd ?_ (by assumption) _))
  rintro _ H2 ⟨rfl, rfl⟩
  cases hp : openP q o with
  | none =>
    rw [openD, if_pos hm, releaseL, hp]
    simp (disch := omega) only [go_sem, Nat.reduceEqDiff, Nat.reduceAdd, Nat.reduceMul, Nat.reduceSub, Nat.reduceLeDiff, ↓reduceIte, reduceCtorEq, Int.reduceAdd, Int.reduceSub, Int.reduceMul, Int.reduceNeg, Int.reduceToNat, List.reduceReplicate, hrc]
    refine DFin.sub (H' := upd H1 r (some (.cells [.bool false, dI 0, u] 116))) (fun b o hb => ?_) (DFin.refl ⟨rfl, u, H1, hu, huL, hr, rfl⟩)
    simp only [upd] at hb ⊢
    by_cases e1 : b = rc
    · subst e1; simp [hrc.1, hHc] at hb
    · by_cases e2 : b = r
      · subst e2; simpa [e1, dI] using hb
      · simpa [e1, e2] using hb
  | some p =>
    rw [openD, if_pos hm, releaseL, hp]
    simp (disch := omega) only [go_sem, Nat.reduceEqDiff, Nat.reduceAdd, Nat.reduceMul, Nat.reduceSub, Nat.reduceLeDiff, ↓reduceIte, reduceCtorEq, Int.reduceAdd, Int.reduceSub, Int.reduceMul, Int.reduceNeg, Int.reduceToNat, List.reduceReplicate, hrc]
    refine (take_lent G q u _ (hv.up ?sub) (by omega) p.1 hl).mono ?_
    case sub => exact (by repeat (first | assumption | exact sub_refl _ | refine sub_upd ?_ (by assumption) _))
    rintro _ H2 ⟨u2, rfl, hu2, hu2L⟩
    have hk : ∀ (b : Nat) (ob : DObj), upd (upd (upd (upd H1 r (some (.cells [.bool lo, dI ow, u] 116))) rc (some (.cells [.bool false, dI 0, dI 0] 65))) r (some (.cells [.bool false, dI 0, u] 116))) r (some (.cells [.bool false, dI 0, u] 116)) b = some ob → H2 b = some ob := fun b ob hb => hu2.sub b ob (by rw [upd_upd] at hb; exact hb)
    have hk1 : H2 r = some (.cells [.bool false, dI 0, u] 116) := hk r _ (upd_same _ _ _)
    have hk2 : H2 rc = some (.cells [.bool false, dI 0, dI 0] 65) := hk rc _ (by simp [upd, hrc.1])
    simp (disch := omega) only [go_sem, Nat.reduceEqDiff, Nat.reduceAdd, Nat.reduceMul, Nat.reduceSub, Nat.reduceLeDiff, ↓reduceIte, reduceCtorEq, Int.reduceAdd, Int.reduceSub, Int.reduceMul, Int.reduceNeg, Int.reduceToNat, List.reduceReplicate, hrc, hk1, hk2, hu2.cell1.1, hu2.cell1.2]
    obtain ⟨H3, g1, g2, g3⟩ := hu2.rebase (H := H) (fun b ob hb => by
      have h1 := hu.sub b ob hb
      have e1 : b ≠ rc := none_ne hHc h1
      have e2 : b ≠ r := none_ne hr h1
      simp [upd, e1, e2, h1])
    have hr0 : H r = none := sub_none hu.sub hr
    have hr3 : H3 r = none := by
      cases e : H3 r with
      | none => rfl
      | some ob =>
        rcases g3 r (by simp [e]) with h | h
        · exact absurd hr0 h
        · simp [upd] at h
    have hg2 : ∀ (b : Nat) (ob : DObj), H3 b = some ob → H2 b = some ob ∧ b ≠ r ∧ b ≠ rc := fun b ob hb => by
      refine ⟨g2 b ob hb, none_ne hr3 hb, fun e => ?_⟩
      subst e
      rcases g3 b (by simp [hb]) with h | h
      · exact h (sub_none hu.sub hHc)
      · simp [upd, hrc.1] at h
    refine DFin.sub (H' := upd H3 r (some (.cells [.bool true, dI p.2, u2] 116))) (fun b ob hb => ?_) (DFin.refl ⟨rfl, u2, H3, g1, hu2L.rebase g2 g3 g1.sub, hr3, rfl⟩)
    simp only [upd] at hb ⊢
    by_cases e1 : b = r
    · subst e1
      have : b ≠ rc := hrc.2.1
      simpa [this, dI] using hb
    · rw [if_neg e1] at hb
      obtain ⟨h1, _, h3⟩ := hg2 b ob hb
      simp [e1, h3, h1]
end Go.Dl

-- lock: finish, End, Wait.
namespace Go.Dl
open Go Go.Proofs
set_option maxRecDepth 10000

theorem OwnLL.frame {e e' : TypeId} {H H1 : DHeap} {q : List (List Int)} {v : DVal} (h : OwnLL e e' H q v H1) {r : Nat} (hr : H1 r = none) (o : DObj) : OwnLL e e' (upd H r (some o)) q v (upd H1 r (some o)) := by
  rcases h with ⟨rfl, rfl, rfl⟩ | ⟨ro, vs, H2, h1, h2, rfl, rfl⟩
  · exact .inl ⟨rfl, rfl, rfl⟩
  · rw [upd_eq_none] at hr
    exact .inr ⟨ro, vs, _, (h1.frame hr.2.2 o).1, by simp [upd, hr, h2], rfl, upd_swap hr.1 _ _ _⟩
theorem Loose.frame {H H1 : DHeap} (h : Loose H H1) (r : Nat) (o : DObj) : Loose (Dl.upd H r (some o)) (Dl.upd H1 r (some o)) := fun b p hb => by
  simp only [Dl.upd] at hb ⊢
  split at hb
  · rename_i e; rw [if_pos e]; exact .inl hb
  · rename_i e; rw [if_neg e]; exact h b p hb
theorem OwnObj.frame {H H' : DHeap} {s : PS} {r : Nat} (h : OwnObj H s r H') {ra : Nat} (hr : H' ra = none) (o : DObj) : OwnObj (upd H ra (some o)) s r (upd H' ra (some o)) := by
  obtain ⟨u, H1, h1, h2, h3, rfl⟩ := h
  rw [upd_eq_none] at hr
  exact ⟨u, _, h1.frame hr.2.2 o, h2.frame ra o, by simp [upd, hr, h3], upd_swap hr.1 _ _ _⟩
theorem OwnObj.unframe {H H' : DHeap} {s : PS} {r ra : Nat} {o : DObj} (h : OwnObj (upd H ra (some o)) s r H') (hr : H ra = none) : ∃ H2, OwnObj H s r H2 ∧ H' = upd H2 ra (some o) ∧ H2 ra = none := by
  obtain ⟨u, H1, h1, h2, h3, rfl⟩ := h
  obtain ⟨H3, k1, rfl, k3⟩ := h1.unframe hr
  rw [upd_eq_none] at h3
  have hL : Loose H H3 := by
    have := h2.unframe
    rwa [upd_none_self k3] at this
  exact ⟨_, ⟨u, H3, k1, hL, h3.2.2, rfl⟩, (upd_swap h3.2.1 _ _ _).symm ▸ rfl, by simp [upd, h3.2.1, k3]⟩
theorem OwnObj.sub {H H' : DHeap} {s : PS} {r : Nat} (h : OwnObj H s r H') : ∀ b o, H b = some o → H' b = some o := by
  obtain ⟨u, H1, h1, h2, h3, rfl⟩ := h
  exact sub_upd h1.sub (sub_none h1.sub h3) _
theorem OwnObj.at {H H' : DHeap} {s : PS} {r : Nat} (h : OwnObj H s r H') : ∃ u, H' r = some (.cells [.bool s.locked, dI s.owner, u] 116) ∧ u.cells = [u] ∧ u.one = true ∧ Views H' u s.q ∧ H r = none := by
  obtain ⟨u, H1, h1, h2, h3, rfl⟩ := h
  exact ⟨u, upd_same _ _ _, h1.cell1.1, h1.cell1.2, h1.views.up (sub_upd (sub_refl H1) h3 _), sub_none h1.sub h3⟩

/-- A state, over rows of the call's own, what is handed over, and an error. -/
def OwnR2 (s : PS) (h : Bool × Int × Int) (e : Int) (H : DHeap) (x : DEnd) (H' : DHeap) : Prop := ∃ u, x = .ret (.tuple [.agg [.bool s.locked, dI s.owner, u], dH h, dI e]) ∧ OwnLL 3 37 H s.q u H'
def ZH : Bool × Int × Int := (false, 0, 0)
theorem OwnR2.zero (e : Int) (H : DHeap) : OwnR2 ZPS ZH e H (.ret (.tuple [.agg [.bool false, dI 0, .nilSlice], .agg [.bool false, dI 0, dI 0], dI e])) H := ⟨_, rfl, .nil _ _ _⟩

def finishL (s s1 : PS) (o : List Bool) : PS × (Bool × Int × Int) × Int :=
  if s.locked = false then (ZPS, ZH, 8) else ((releaseL s1.q o).1, (releaseL s1.q o).2, 0)

theorem finish_spec (G : Nat → DVal) (s s1 : PS) (k : Nat) (cap : List DVal) (o : List Bool) (r : Nat) (H H' : DHeap) (ho : o.length ≤ 1099511627776) (hobj : OwnObj H s r H') (hm1 : s.locked = true → mayQ s1.q = true)
    (hf : ∀ B B', (∀ b ob, H b = some ob → B b = some ob) → OwnObj B s r B' → s.locked = true → DCalls Try.prog G k cap B' fun x B'' => x = .ret (.tuple []) ∧ OwnObj B s1 r B'') :
    DCalls Try.prog G 74 [.optr r 0, .func (.func k) [] cap, .func (.func 76) [.optr r 0] [], dBs o] H' (OwnR2 (finishL s s1 o).1 (finishL s s1 o).2.1 (finishL s s1 o).2.2 H) := by
  refine dcalls_intro Try.func74 Try.call74 rfl (by kernel_rfl) ?_
  simp (disch := omega) only [go_sem, Nat.reduceEqDiff, Nat.reduceAdd, Nat.reduceMul, Nat.reduceSub, Nat.reduceLeDiff, ↓reduceIte, reduceCtorEq, Int.reduceAdd, Int.reduceSub, Int.reduceMul, Int.reduceNeg, Int.reduceToNat, List.reduceReplicate, dBs]
  intro ra hra; dsimp only at hra
  simp (disch := omega) only [go_sem, Nat.reduceEqDiff, Nat.reduceAdd, Nat.reduceMul, Nat.reduceSub, Nat.reduceLeDiff, ↓reduceIte, reduceCtorEq, Int.reduceAdd, Int.reduceSub, Int.reduceMul, Int.reduceNeg, Int.reduceToNat, List.reduceReplicate]
  intro rb hrb; dsimp only at hrb
  rw [upd_eq_none] at hrb
  simp (disch := omega) only [go_sem, Nat.reduceEqDiff, Nat.reduceAdd, Nat.reduceMul, Nat.reduceSub, Nat.reduceLeDiff, ↓reduceIte, reduceCtorEq, Int.reduceAdd, Int.reduceSub, Int.reduceMul, Int.reduceNeg, Int.reduceToNat, List.reduceReplicate, hrb]
  obtain ⟨u, hu, huc, huo, huv, hr0⟩ := hobj.at
  have hrr : r ≠ ra := none_ne hra hu
  have hrr2 : r ≠ rb := none_ne hrb.2.2 hu
  cases hlo : s.locked with
  | false =>
    rw [show finishL s s1 o = (ZPS, ZH, 8) by simp [finishL, hlo]]
    rw [hlo] at hu
    have hsub := hobj.sub
    have h1 := sub_none hsub hra
    have h2 := sub_none hsub hrb.2.2
    simp (disch := omega) only [go_sem, Nat.reduceEqDiff, Nat.reduceAdd, Nat.reduceMul, Nat.reduceSub, Nat.reduceLeDiff, ↓reduceIte, reduceCtorEq, Int.reduceAdd, Int.reduceSub, Int.reduceMul, Int.reduceNeg, Int.reduceToNat, List.reduceReplicate, hrb, hu, hrr, hrr2, hrr.symm, hrr2.symm]
    exact DFin.sub (by repeat (first | assumption | exact sub_refl _ | refine sub_upd ?_ (by assumption) _)) (DFin.refl (OwnR2.zero _ _))
  | true =>
    rw [show finishL s s1 o = ((releaseL s1.q o).1, (releaseL s1.q o).2, 0) by simp [finishL, hlo]]
    rw [hlo] at hu
    simp (disch := omega) only [go_sem, Nat.reduceEqDiff, Nat.reduceAdd, Nat.reduceMul, Nat.reduceSub, Nat.reduceLeDiff, ↓reduceIte, reduceCtorEq, Int.reduceAdd, Int.reduceSub, Int.reduceMul, Int.reduceNeg, Int.reduceToNat, List.reduceReplicate, hrb, hu, hrr, hrr2, hrr.symm, hrr2.symm]
    have hob2 := (hobj.frame hra (.cells [.bool false, dI 0, .nilSlice] 61)).frame (ra := rb) (by simp [upd, hrb]) (.cells [.bool false, dI 0, dI 0] 65)
    refine (hf _ _ ?sub hob2 hlo).mono ?_
    case sub =>
      have h1 := sub_none hobj.sub hra
      have h2 := sub_none hobj.sub hrb.2.2
      exact (by repeat (first | assumption | exact sub_refl _ | refine sub_upd ?_ (by assumption) _))
    rintro _ H2 ⟨rfl, u1, H3, k1, k2, k3, rfl⟩
    simp (disch := omega) only [go_sem, Nat.reduceEqDiff, Nat.reduceAdd, Nat.reduceMul, Nat.reduceSub, Nat.reduceLeDiff, ↓reduceIte, reduceCtorEq, Int.reduceAdd, Int.reduceSub, Int.reduceMul, Int.reduceNeg, Int.reduceToNat, List.reduceReplicate]
    refine (release_spec G s1.locked s1.owner s1.q o r u1 _ H3 (hm1 hlo) k1 k2 k3 ho).mono ?_
    rintro _ H4 ⟨rfl, hob4⟩
    simp (disch := omega) only [go_sem, Nat.reduceEqDiff, Nat.reduceAdd, Nat.reduceMul, Nat.reduceSub, Nat.reduceLeDiff, ↓reduceIte, reduceCtorEq, Int.reduceAdd, Int.reduceSub, Int.reduceMul, Int.reduceNeg, Int.reduceToNat, List.reduceReplicate, dH]
    intro rd hrd; dsimp only at hrd
    obtain ⟨H5, m1, rfl, m3⟩ := hob4.unframe (by simp [upd, hrb]; exact sub_none hobj.sub hrb.2.2)
    obtain ⟨H6, n1, rfl, n3⟩ := m1.unframe (sub_none hobj.sub hra)
    obtain ⟨u2, H7, p1, p2, p3, rfl⟩ := n1
    simp only [upd_eq_none] at hrd m3 n3
    simp (disch := omega) only [go_sem, Nat.reduceEqDiff, Nat.reduceAdd, Nat.reduceMul, Nat.reduceSub, Nat.reduceLeDiff, ↓reduceIte, reduceCtorEq, Int.reduceAdd, Int.reduceSub, Int.reduceMul, Int.reduceNeg, Int.reduceToNat, List.reduceReplicate, hrd, m3, n3]
    refine dwp_draws (by kernel_rfl) (.take 0 (.take 1 (.take 2 (.take 3 (.take 4 (.go 5 [4] (.go 6 [] (.take 7 .done)))))))) (by kernel_rfl) ?_
    simp (disch := omega) only [go_sem, Nat.reduceEqDiff, Nat.reduceAdd, Nat.reduceMul, Nat.reduceSub, Nat.reduceLeDiff, ↓reduceIte, reduceCtorEq, Int.reduceAdd, Int.reduceSub, Int.reduceMul, Int.reduceNeg, Int.reduceToNat, List.reduceReplicate, hrd, m3, n3, p1.cell1.2]
    have h7a := n3.2.2
    have h7b := m3.2.2.2.2
    have h7d := hrd.2.2.2.2.2.2
    exact DFin.sub (H' := H7) (by repeat (first | assumption | exact sub_refl _ | refine sub_upd ?_ (by assumption) _)) (DFin.refl ⟨u2, rfl, p1⟩)

theorem end1_spec (G : Nat → DVal) (H : DHeap) : DCalls Try.prog G 77 [] H (DRet (.tuple []) H) := by
  refine dcalls_intro Try.func77 Try.call77 rfl (by kernel_rfl) ?_
  simp (disch := omega) only [go_sem, Nat.reduceEqDiff, Nat.reduceAdd, Nat.reduceMul, Nat.reduceSub, Nat.reduceLeDiff, ↓reduceIte, reduceCtorEq, Int.reduceAdd, Int.reduceSub, Int.reduceMul, Int.reduceNeg, Int.reduceToNat, List.reduceReplicate]
  exact DFin.refl ⟨rfl, rfl⟩

def endL (s : PS) (o : List Bool) : PS × (Bool × Int × Int) × Int := if mayS s = false then (ZPS, ZH, 2) else finishL s s o
theorem end_spec (G : Nat → DVal) (s : PS) (o : List Bool) (H : DHeap) (hq : s.q.length ≤ 1099511627776) (hl : ∀ l ∈ s.q, l.length ≤ 1099511627776) (ho : o.length ≤ 1099511627776) :
    DCalls Try.prog G 40 [dPS s, dBs o] H (OwnR2 (endL s o).1 (endL s o).2.1 (endL s o).2.2 H) := by
  refine dcalls_intro Try.func40 Try.call40 rfl (by kernel_rfl) ?_
  simp (disch := omega) only [go_sem, Nat.reduceEqDiff, Nat.reduceAdd, Nat.reduceMul, Nat.reduceSub, Nat.reduceLeDiff, ↓reduceIte, reduceCtorEq, Int.reduceAdd, Int.reduceSub, Int.reduceMul, Int.reduceNeg, Int.reduceToNat, List.reduceReplicate, dBs]
  intro rx hrx; dsimp only at hrx
  simp (disch := omega) only [go_sem, Nat.reduceEqDiff, Nat.reduceAdd, Nat.reduceMul, Nat.reduceSub, Nat.reduceLeDiff, ↓reduceIte, reduceCtorEq, Int.reduceAdd, Int.reduceSub, Int.reduceMul, Int.reduceNeg, Int.reduceToNat, List.reduceReplicate]
  intro ra hra; dsimp only at hra
  rw [upd_eq_none] at hra
  simp (disch := omega) only [go_sem, Nat.reduceEqDiff, Nat.reduceAdd, Nat.reduceMul, Nat.reduceSub, Nat.reduceLeDiff, ↓reduceIte, reduceCtorEq, Int.reduceAdd, Int.reduceSub, Int.reduceMul, Int.reduceNeg, Int.reduceToNat, List.reduceReplicate, hra]
  intro rb hrb; dsimp only at hrb
  simp only [upd_eq_none] at hrb
  have h2 := hra.2.2
  have h3 := hrb.2.2.2.2
  have hsub := sub_refl H
  simp (disch := omega) only [go_sem, Nat.reduceEqDiff, Nat.reduceAdd, Nat.reduceMul, Nat.reduceSub, Nat.reduceLeDiff, ↓reduceIte, reduceCtorEq, Int.reduceAdd, Int.reduceSub, Int.reduceMul, Int.reduceNeg, Int.reduceToNat, List.reduceReplicate, hra, hrb]
  refine (lopen_spec G s _ hq hl).mono ?_
  rintro _ H1 (⟨hm, rfl, rfl⟩ | ⟨hm, r, rfl, hob⟩)
  · rw [show endL s o = (ZPS, ZH, 2) by simp [endL, hm]]
    simp (disch := omega) only [go_sem, Nat.reduceEqDiff, Nat.reduceAdd, Nat.reduceMul, Nat.reduceSub, Nat.reduceLeDiff, ↓reduceIte, reduceCtorEq, Int.reduceAdd, Int.reduceSub, Int.reduceMul, Int.reduceNeg, Int.reduceToNat, List.reduceReplicate, hra, hrb]
    exact DFin.sub (by repeat (first | assumption | exact sub_refl _ | refine sub_upd ?_ (by assumption) _)) (DFin.refl (OwnR2.zero _ _))
  · rw [show endL s o = finishL s s o by simp [endL, hm]]
    simp (disch := omega) only [go_sem, Nat.reduceEqDiff, Nat.reduceAdd, Nat.reduceMul, Nat.reduceSub, Nat.reduceLeDiff, ↓reduceIte, reduceCtorEq, Int.reduceAdd, Int.reduceSub, Int.reduceMul, Int.reduceNeg, Int.reduceToNat, List.reduceReplicate]
    refine (finish_spec G s s 77 [] o r _ H1 ho hob (fun _ => mayS_q hm) (fun B B' _ hB _ => (end1_spec G B').mono fun x H' ⟨h1, h2⟩ => ⟨h1, by rw [h2]; exact hB⟩)).mono ?_
    rintro _ H2 ⟨u, rfl, hu⟩
    obtain ⟨H3, k1, rfl, k3⟩ := hu.unframe (by simp [upd, hra, hrb])
    obtain ⟨H4, m1, rfl, m3⟩ := k1.unframe (by simp [upd, hra])
    obtain ⟨H5, n1, rfl, n3⟩ := m1.unframe hrx
    simp only [upd_eq_none] at k3 m3
    simp (disch := omega) only [go_sem, Nat.reduceEqDiff, Nat.reduceAdd, Nat.reduceMul, Nat.reduceSub, Nat.reduceLeDiff, ↓reduceIte, reduceCtorEq, Int.reduceAdd, Int.reduceSub, Int.reduceMul, Int.reduceNeg, Int.reduceToNat, List.reduceReplicate, k3, m3, n3, dH, m1.cell1.2, n1.cell1.2]
    have h5a := m3.2.2
    have h5b := k3.2.2.2.2
    exact DFin.sub (H' := H5) (by repeat (first | assumption | exact sub_refl _ | refine sub_upd ?_ (by assumption) _)) (DFin.refl ⟨u, rfl, n1⟩)
end Go.Dl

-- lock: Wait.
namespace Go.Dl
open Go Go.Proofs
set_option maxRecDepth 10000

theorem OwnObj.len {H H' : DHeap} {s : PS} {r : Nat} {u : DVal} (h : OwnObj H s r H') (hu : H' r = some (.cells [.bool s.locked, dI s.owner, u] 116)) (e : TypeId) (dst : Option Nat) (K : DK) (st : DS) :
    dLen dst (some (.slice e)) u K st = dput dst (dI s.q.length) K st := by
  obtain ⟨u', H1, h1, h2, h3, rfl⟩ := h
  rw [upd_same] at hu
  cases hu
  rcases h1 with ⟨h1, rfl, _⟩ | ⟨ro, vs, H2, _, _, rfl, _⟩
  · rw [h1]; rfl
  · rfl
/-- The object gets other rows. -/
theorem OwnObj.turn {B B2 H2 : DHeap} {q : List (List Int)} {u : DVal} {r : Nat} (hr : B r = none) (hr2 : B2 r ≠ none) (hs : ∀ b o, B b = some o → B2 b = some o) (hu : OwnLL 3 37 B2 q u H2) (hL : Loose B2 H2) (lo : Bool) (ow : Int) :
    ∃ B3, OwnObj B ⟨lo, ow, q⟩ r B3 ∧ ∀ b ob, B3 b = some ob → upd H2 r (some (.cells [.bool lo, dI ow, u] 116)) b = some ob := by
  obtain ⟨H3, g1, g2, g3⟩ := hu.rebase hs
  have hr3 : H3 r = none := by
    cases e : H3 r with
    | none => rfl
    | some ob =>
      rcases g3 r (by simp [e]) with h | h
      · exact absurd hr h
      · exact absurd h hr2
  refine ⟨upd H3 r (some (.cells [.bool lo, dI ow, u] 116)), ⟨u, H3, g1, hL.rebase g2 g3 g1.sub, hr3, rfl⟩, fun b ob hb => ?_⟩
  simp only [upd] at hb ⊢
  split at hb
  · rename_i e; rw [if_pos e]; exact hb
  · rename_i e; rw [if_neg e]; exact g2 b ob hb

def waitS (s : PS) (n : Nat) : PS := ⟨s.locked, s.owner, (putL s.q n s.owner).1⟩
def Wait1R (s : PS) (n r : Nat) (B : DHeap) (x : DEnd) (B' : DHeap) : Prop := x = .ret (.tuple []) ∧ OwnObj B (waitS s n) r B'
theorem wait1_spec (G : Nat → DVal) (s : PS) (n : Nat) (r r9 r4 : Nat) (B B' : DHeap) (hm : mayS s = true) (hob : OwnObj B s r B') (h9 : B r9 = some (.cells [.optr r 0] 112)) (h4 : B r4 = some (.cells [dI n] 3)) :
    DCalls Try.prog G 75 [.optr r9 0, .optr r4 0] B' (Wait1R s n r B) := by
  obtain ⟨u, hu, huc, huo, huv, hr0⟩ := hob.at
  have k9 := hob.sub _ _ h9
  have k4 := hob.sub _ _ h4
  have hmq := mayS_q hm
  refine dcalls_intro Try.func75 Try.call75 rfl (by kernel_rfl) ?_
  simp (disch := omega) only [go_sem, Nat.reduceEqDiff, Nat.reduceAdd, Nat.reduceMul, Nat.reduceSub, Nat.reduceLeDiff, ↓reduceIte, reduceCtorEq, Int.reduceAdd, Int.reduceSub, Int.reduceMul, Int.reduceNeg, Int.reduceToNat, List.reduceReplicate]
  refine dwp_draws (by kernel_rfl) (.take 0 (.take 1 (.take 2 (.take 3 (.take 4 (.take 5 (.take 6 (.take 7 (.take 8 (.take 9 (.take 10 (.take 11 (.go 12 [7, 1, 0] (.take 13 (.take 14 (.take 15 (.take 16 (.take 17 (.take 18 (.go 19 [] .done)))))))))))))))))))) (by kernel_rfl) ?_
  simp (disch := omega) only [go_sem, Nat.reduceEqDiff, Nat.reduceAdd, Nat.reduceMul, Nat.reduceSub, Nat.reduceLeDiff, ↓reduceIte, reduceCtorEq, Int.reduceAdd, Int.reduceSub, Int.reduceMul, Int.reduceNeg, Int.reduceToNat, List.reduceReplicate, k9, k4, hu]
  refine (put_lent G s.q u _ huv (by have := mayQ_len hmq; omega) n s.owner (fun l h => by have := mayQ_row hmq h; omega)).mono ?_
  rintro _ H2 ⟨u2, rfl, hu2, huL⟩
  have j9 := hu2.sub _ _ k9
  have j4 := hu2.sub _ _ k4
  have ju := hu2.sub _ _ hu
  simp (disch := omega) only [go_sem, Nat.reduceEqDiff, Nat.reduceAdd, Nat.reduceMul, Nat.reduceSub, Nat.reduceLeDiff, ↓reduceIte, reduceCtorEq, Int.reduceAdd, Int.reduceSub, Int.reduceMul, Int.reduceNeg, Int.reduceToNat, List.reduceReplicate, KeepK, j9, j4, ju, k9, k4, hu, hu2.cell1.1, hu2.cell1.2]
  obtain ⟨B3, g1, g2⟩ := OwnObj.turn hr0 (by rw [hu]; simp) hob.sub hu2 huL s.locked s.owner
  refine DFin.sub g2 (DFin.refl ?_)
  exact ⟨rfl, g1⟩

def waitL (s : PS) (n : Int) (o : List Bool) : PS × (Bool × Int × Int) × Int :=
  if mayS s = false then (ZPS, ZH, 2) else if ¬ (0 ≤ n ∧ n < s.q.length) then (ZPS, ZH, 4) else finishL s (waitS s n.toNat) o
theorem mayS_locked {s : PS} (h : mayS s = true) (hl : s.locked = true) : mayQ s.q = true ∧ (0 ≤ s.owner ∧ s.owner < 32) ∧ s.owner ∉ s.q.flatten := by
  unfold mayS at h
  rw [hl] at h
  simp only [if_true, Bool.and_eq_true, isTask, decide_eq_true_eq, Bool.not_eq_true', decide_eq_false_iff_not] at h
  exact ⟨h.1, h.2.1, h.2.2⟩
theorem waitS_may {s : PS} {n : Nat} (h : mayS s = true) (hn : n < s.q.length) (hl : s.locked = true) : mayQ (waitS s n).q = true := by
  obtain ⟨h1, h2, h3⟩ := mayS_locked h hl
  have hg : s.q.getD n [] = s.q[n] := by simp [hn]
  unfold waitS
  rw [putL_eq h1 h2, if_neg (by omega), if_neg h3, hg]
  exact mayQ_put h1 hn h2 h3
theorem wait_spec (G : Nat → DVal) (s : PS) (n : Int) (o : List Bool) (H : DHeap) (hq : s.q.length ≤ 1099511627776) (hl : ∀ l ∈ s.q, l.length ≤ 1099511627776) (ho : o.length ≤ 1099511627776) :
    DCalls Try.prog G 39 [dPS s, dI n, dBs o] H (OwnR2 (waitL s n o).1 (waitL s n o).2.1 (waitL s n o).2.2 H) := by
  refine dcalls_intro Try.func39 Try.call39 rfl (by kernel_rfl) ?_
  simp (disch := omega) only [go_sem, Nat.reduceEqDiff, Nat.reduceAdd, Nat.reduceMul, Nat.reduceSub, Nat.reduceLeDiff, ↓reduceIte, reduceCtorEq, Int.reduceAdd, Int.reduceSub, Int.reduceMul, Int.reduceNeg, Int.reduceToNat, List.reduceReplicate, dBs]
  intro rx hrx; dsimp only at hrx
  simp (disch := omega) only [go_sem, Nat.reduceEqDiff, Nat.reduceAdd, Nat.reduceMul, Nat.reduceSub, Nat.reduceLeDiff, ↓reduceIte, reduceCtorEq, Int.reduceAdd, Int.reduceSub, Int.reduceMul, Int.reduceNeg, Int.reduceToNat, List.reduceReplicate]
  intro ry hry; dsimp only at hry
  rw [upd_eq_none] at hry
  simp (disch := omega) only [go_sem, Nat.reduceEqDiff, Nat.reduceAdd, Nat.reduceMul, Nat.reduceSub, Nat.reduceLeDiff, ↓reduceIte, reduceCtorEq, Int.reduceAdd, Int.reduceSub, Int.reduceMul, Int.reduceNeg, Int.reduceToNat, List.reduceReplicate, hry]
  intro ra hra; dsimp only at hra
  simp only [upd_eq_none] at hra
  simp (disch := omega) only [go_sem, Nat.reduceEqDiff, Nat.reduceAdd, Nat.reduceMul, Nat.reduceSub, Nat.reduceLeDiff, ↓reduceIte, reduceCtorEq, Int.reduceAdd, Int.reduceSub, Int.reduceMul, Int.reduceNeg, Int.reduceToNat, List.reduceReplicate, hry, hra]
  intro rb hrb; dsimp only at hrb
  simp only [upd_eq_none] at hrb
  have h1 := hry.2.2
  have h2 := hra.2.2.2.2
  have h3 := hrb.2.2.2.2.2.2
  have hsub := sub_refl H
  simp (disch := omega) only [go_sem, Nat.reduceEqDiff, Nat.reduceAdd, Nat.reduceMul, Nat.reduceSub, Nat.reduceLeDiff, ↓reduceIte, reduceCtorEq, Int.reduceAdd, Int.reduceSub, Int.reduceMul, Int.reduceNeg, Int.reduceToNat, List.reduceReplicate, hry, hra, hrb]
  refine (lopen_spec G s _ hq hl).mono ?_
  rintro _ H1 (⟨hm, rfl, rfl⟩ | ⟨hm, r, rfl, hob⟩)
  · rw [show waitL s n o = (ZPS, ZH, 2) by simp [waitL, hm]]
    simp (disch := omega) only [go_sem, Nat.reduceEqDiff, Nat.reduceAdd, Nat.reduceMul, Nat.reduceSub, Nat.reduceLeDiff, ↓reduceIte, reduceCtorEq, Int.reduceAdd, Int.reduceSub, Int.reduceMul, Int.reduceNeg, Int.reduceToNat, List.reduceReplicate]
    intro rz hrz; dsimp only at hrz
    simp only [upd_eq_none] at hrz
    have h4 := hrz.2.2.2.2.2.2.2.2
    simp (disch := omega) only [go_sem, Nat.reduceEqDiff, Nat.reduceAdd, Nat.reduceMul, Nat.reduceSub, Nat.reduceLeDiff, ↓reduceIte, reduceCtorEq, Int.reduceAdd, Int.reduceSub, Int.reduceMul, Int.reduceNeg, Int.reduceToNat, List.reduceReplicate, hry, hra, hrb, hrz]
    exact DFin.sub (by repeat (first | assumption | exact sub_refl _ | refine sub_upd ?_ (by assumption) _)) (DFin.refl (OwnR2.zero _ _))
  · simp (disch := omega) only [go_sem, Nat.reduceEqDiff, Nat.reduceAdd, Nat.reduceMul, Nat.reduceSub, Nat.reduceLeDiff, ↓reduceIte, reduceCtorEq, Int.reduceAdd, Int.reduceSub, Int.reduceMul, Int.reduceNeg, Int.reduceToNat, List.reduceReplicate]
    intro rz hrz; dsimp only at hrz
    have hyy := hob.sub ry _ (by simp [upd, hry, hra, hrb]; rfl)
    have haa := hob.sub ra _ (by simp [upd, hry, hra, hrb]; rfl)
    have hbb := hob.sub rb _ (by simp [upd, hry, hra, hrb]; rfl)
    obtain ⟨u, hu, huc, huo, huv, hr0⟩ := hob.at
    have hsub0 : ∀ b ob, H b = some ob → H1 b = some ob := fun b ob hb => hob.sub b ob (((by repeat (first | assumption | exact sub_refl _ | refine sub_upd ?_ (by assumption) _)) : ∀ b ob, H b = some ob → upd (upd (upd (upd H rx _) ry _) ra _) rb _ b = some ob) b ob hb)
    have hzn : H rz = none := sub_none hsub0 hrz
    have hzr : r ≠ rz := none_ne hrz hu
    have hzy : ry ≠ rz := none_ne hrz hyy
    have hza : ra ≠ rz := none_ne hrz haa
    have hzb : rb ≠ rz := none_ne hrz hbb
    simp (disch := omega) only [go_sem, Nat.reduceEqDiff, Nat.reduceAdd, Nat.reduceMul, Nat.reduceSub, Nat.reduceLeDiff, ↓reduceIte, reduceCtorEq, Int.reduceAdd, Int.reduceSub, Int.reduceMul, Int.reduceNeg, Int.reduceToNat, List.reduceReplicate, hry, hra, hrb, hzr, hzy, hza, hzb, hyy, haa, hbb]
    by_cases c1 : n < 0
    · rw [show waitL s n o = (ZPS, ZH, 4) by rw [waitL, if_neg (by simp [hm]), if_pos (by omega)]]
      refine dwp_draws (by kernel_rfl) (.take 0 (.take 1 (.take 2 (.take 3 (.take 4 (.take 5 (.take 6 (.take 7 (.take 8 (.take 9 (.take 10 (.take 11 (.take 12 .done))))))))))))) (by kernel_rfl) ?_
      simp (disch := omega) only [go_sem, Nat.reduceEqDiff, Nat.reduceAdd, Nat.reduceMul, Nat.reduceSub, Nat.reduceLeDiff, ↓reduceIte, reduceCtorEq, Int.reduceAdd, Int.reduceSub, Int.reduceMul, Int.reduceNeg, Int.reduceToNat, List.reduceReplicate, hry, hra, hrb, hzr, hzy, hza, hzb, hyy, haa, hbb]
      exact DFin.sub (by repeat (first | assumption | exact sub_refl _ | refine sub_upd ?_ (by assumption) _)) (DFin.refl (OwnR2.zero _ _))
    have hlen := hob.len hu
    by_cases c2 : (s.q.length : Int) ≤ n
    · rw [show waitL s n o = (ZPS, ZH, 4) by rw [waitL, if_neg (by simp [hm]), if_pos (by omega)]]
      refine dwp_draws (by kernel_rfl) (.take 0 (.take 1 (.take 2 (.take 3 (.take 4 (.take 5 (.take 6 (.take 7 (.take 8 (.take 9 (.take 10 (.take 11 (.take 12 .done))))))))))))) (by kernel_rfl) ?_
      simp (disch := omega) only [go_sem, Nat.reduceEqDiff, Nat.reduceAdd, Nat.reduceMul, Nat.reduceSub, Nat.reduceLeDiff, ↓reduceIte, reduceCtorEq, Int.reduceAdd, Int.reduceSub, Int.reduceMul, Int.reduceNeg, Int.reduceToNat, List.reduceReplicate, hry, hra, hrb, hzr, hzy, hza, hzb, hyy, haa, hbb, hu, hlen]
      exact DFin.sub (by repeat (first | assumption | exact sub_refl _ | refine sub_upd ?_ (by assumption) _)) (DFin.refl (OwnR2.zero _ _))
    · obtain ⟨m, rfl⟩ : ∃ m : Nat, n = m := ⟨n.toNat, by omega⟩
      have hmn : m < s.q.length := by omega
      rw [show waitL s m o = finishL s (waitS s m) o by rw [waitL, if_neg (by simp [hm]), if_neg (by omega), Int.toNat_natCast]]
      refine dwp_draws (by kernel_rfl) (.take 0 (.take 1 (.take 2 (.take 3 (.take 4 (.take 5 (.take 6 (.take 7 (.take 8 (.take 9 (.take 10 (.take 11 (.take 12 .done))))))))))))) (by kernel_rfl) ?_
      simp (disch := omega) only [go_sem, Nat.reduceEqDiff, Nat.reduceAdd, Nat.reduceMul, Nat.reduceSub, Nat.reduceLeDiff, ↓reduceIte, reduceCtorEq, Int.reduceAdd, Int.reduceSub, Int.reduceMul, Int.reduceNeg, Int.reduceToNat, List.reduceReplicate, hry, hra, hrb, hzr, hzy, hza, hzb, hyy, haa, hbb, hu, hlen]
      refine (finish_spec G s (waitS s m) 75 [.optr rz 0, .optr ry 0] o r _ _ ho (hob.frame hrz (.cells [.optr r 0] 112)) (waitS_may hm hmn) (fun B B' hBs hB hlo => wait1_spec G s m r rz ry B B' hm hB (hBs _ _ (upd_same _ _ _)) (hBs _ _ (by simp [upd, hzy, hry, hra, hrb])))).mono ?_
      rintro _ H2 ⟨u', rfl, hu'⟩
      obtain ⟨Hz, j1, rfl, j3⟩ := hu'.unframe (sub_none hob.sub hrz)
      obtain ⟨H3, k1, rfl, k3⟩ := j1.unframe (by simp [upd, hry, hra, hrb])
      obtain ⟨H4, m1, rfl, m3⟩ := k1.unframe (by simp [upd, hry, hra])
      obtain ⟨H5, n1, rfl, n3⟩ := m1.unframe (by simp [upd, hry])
      obtain ⟨H6, p1, rfl, p3⟩ := n1.unframe hrx
      simp only [upd_eq_none] at j3 k3 m3 n3
      simp (disch := omega) only [go_sem, Nat.reduceEqDiff, Nat.reduceAdd, Nat.reduceMul, Nat.reduceSub, Nat.reduceLeDiff, ↓reduceIte, reduceCtorEq, Int.reduceAdd, Int.reduceSub, Int.reduceMul, Int.reduceNeg, Int.reduceToNat, List.reduceReplicate, j3, k3, m3, n3, p3, dH, p1.cell1.2]
      have h6a := n3.2.2
      have h6b := m3.2.2.2.2
      have h6c := k3.2.2.2.2.2.2
      have h6d := j3.2.2.2.2.2.2.2.2
      exact DFin.sub (H' := H6) (by repeat (first | assumption | exact sub_refl _ | refine sub_upd ?_ (by assumption) _)) (DFin.refl ⟨u', rfl, p1⟩)
end Go.Dl

-- The reference of chapter 32: New, Begin, release, End, Wait, Leave, Same; Active.
namespace Go.Dl
open Go Go.Proofs
set_option maxRecDepth 10000

theorem rlnew_spec (G : Nat → DVal) (n : Int) (H : DHeap) : DCalls Try.prog G 56 [dI n] H (DRet (dR1 (newL n).1 (newL n).2) H) := by
  refine dcalls_intro Try.func56 Try.call56 rfl (by kernel_rfl) ?_
  simp (disch := omega) only [go_sem, Nat.reduceEqDiff, Nat.reduceAdd, Nat.reduceMul, Nat.reduceSub, Nat.reduceLeDiff, ↓reduceIte, reduceCtorEq, Int.reduceAdd, Int.reduceSub, Int.reduceMul, Int.reduceNeg, Int.reduceToNat, List.reduceReplicate]
  intro rb hrb; dsimp only at hrb
  simp (disch := omega) only [go_sem, Nat.reduceEqDiff, Nat.reduceAdd, Nat.reduceMul, Nat.reduceSub, Nat.reduceLeDiff, ↓reduceIte, reduceCtorEq, Int.reduceAdd, Int.reduceSub, Int.reduceMul, Int.reduceNeg, Int.reduceToNat, List.reduceReplicate]
  refine (rnew_spec G n _).mono ?_
  rintro _ H1 ⟨rfl, rfl⟩
  by_cases h : 0 ≤ n ∧ n ≤ 8
  · rw [newD, if_pos h, newL, if_pos h]
    simp (disch := omega) only [go_sem, Nat.reduceEqDiff, Nat.reduceAdd, Nat.reduceMul, Nat.reduceSub, Nat.reduceLeDiff, ↓reduceIte, reduceCtorEq, Int.reduceAdd, Int.reduceSub, Int.reduceMul, Int.reduceNeg, Int.reduceToNat, List.reduceReplicate, hrb]
    exact DFin.dropA rb hrb (DFin.refl ⟨rfl, rfl⟩)
  · rw [newD, if_neg h, newL, if_neg h]
    simp (disch := omega) only [go_sem, Nat.reduceEqDiff, Nat.reduceAdd, Nat.reduceMul, Nat.reduceSub, Nat.reduceLeDiff, ↓reduceIte, reduceCtorEq, Int.reduceAdd, Int.reduceSub, Int.reduceMul, Int.reduceNeg, Int.reduceToNat, List.reduceReplicate, hrb]
    exact DFin.dropA rb hrb (DFin.le (dR1_zero _) (DFin.refl ⟨rfl, rfl⟩))

theorem rbegin_spec (G : Nat → DVal) (s : PS) (t a c : Int) (H : DHeap) (hq : s.q.length ≤ 1099511627776) (hb : s.q.flatten.length ≤ 1099511627776) (hl : ∀ l ∈ s.q, l.length ≤ 1099511627776) :
    DCalls Try.prog G 51 [dPS s, dI t, dI a, dI c] H (DRet (dR1 (beginL s t a c).1 (beginL s t a c).2) H) := by
  refine dcalls_intro Try.func51 Try.call51 rfl (by kernel_rfl) ?_
  simp (disch := omega) only [go_sem, Nat.reduceEqDiff, Nat.reduceAdd, Nat.reduceMul, Nat.reduceSub, Nat.reduceLeDiff, ↓reduceIte, reduceCtorEq, Int.reduceAdd, Int.reduceSub, Int.reduceMul, Int.reduceNeg, Int.reduceToNat, List.reduceReplicate]
  intro rb hrb; dsimp only at hrb
  simp (disch := omega) only [go_sem, Nat.reduceEqDiff, Nat.reduceAdd, Nat.reduceMul, Nat.reduceSub, Nat.reduceLeDiff, ↓reduceIte, reduceCtorEq, Int.reduceAdd, Int.reduceSub, Int.reduceMul, Int.reduceNeg, Int.reduceToNat, List.reduceReplicate]
  intro ro hro; dsimp only at hro
  rw [upd_eq_none] at hro
  have hHo := hro.2.2
  have hsub := sub_refl H
  simp (disch := omega) only [go_sem, Nat.reduceEqDiff, Nat.reduceAdd, Nat.reduceMul, Nat.reduceSub, Nat.reduceLeDiff, ↓reduceIte, reduceCtorEq, Int.reduceAdd, Int.reduceSub, Int.reduceMul, Int.reduceNeg, Int.reduceToNat, List.reduceReplicate, hro]
  refine (rlmay_spec G s _ hq hb hl).mono ?_
  rintro _ H1 ⟨rfl, rfl⟩
  cases hm : mayS s with
  | false =>
    rw [show beginL s t a c = (ZPS, 2) by simp [beginL, hm]]
    simp (disch := omega) only [go_sem, Nat.reduceEqDiff, Nat.reduceAdd, Nat.reduceMul, Nat.reduceSub, Nat.reduceLeDiff, ↓reduceIte, reduceCtorEq, Int.reduceAdd, Int.reduceSub, Int.reduceMul, Int.reduceNeg, Int.reduceToNat, List.reduceReplicate, hro]
    exact DFin.sub (by repeat (first | assumption | exact sub_refl _ | refine sub_upd ?_ (by assumption) _)) (DFin.le (dR1_zero _) (DFin.refl ⟨rfl, rfl⟩))
  | true =>
    have bad : ¬ (0 ≤ t ∧ t < 32 ∧ 0 ≤ a ∧ a ≤ c ∧ c ≤ 31) → beginL s t a c = (ZPS, 4) := fun h => by rw [beginL, if_neg (by simp [hm]), if_pos h]
    simp (disch := omega) only [go_sem, Nat.reduceEqDiff, Nat.reduceAdd, Nat.reduceMul, Nat.reduceSub, Nat.reduceLeDiff, ↓reduceIte, reduceCtorEq, Int.reduceAdd, Int.reduceSub, Int.reduceMul, Int.reduceNeg, Int.reduceToNat, List.reduceReplicate, hro]
    refine (rtask_spec G t _).mono ?_
    rintro _ H1 ⟨rfl, rfl⟩
    cases ht : isTask t with
    | false =>
      rw [bad (fun h => by simp [isTask, h] at ht)]
      simp (disch := omega) only [go_sem, Nat.reduceEqDiff, Nat.reduceAdd, Nat.reduceMul, Nat.reduceSub, Nat.reduceLeDiff, ↓reduceIte, reduceCtorEq, Int.reduceAdd, Int.reduceSub, Int.reduceMul, Int.reduceNeg, Int.reduceToNat, List.reduceReplicate, hro]
      exact DFin.sub (by repeat (first | assumption | exact sub_refl _ | refine sub_upd ?_ (by assumption) _)) (DFin.le (dR1_zero _) (DFin.refl ⟨rfl, rfl⟩))
    | true =>
      have ht' : 0 ≤ t ∧ t < 32 := by simpa [isTask] using ht
      by_cases c1 : a < 0
      · rw [bad (by omega)]
        simp (disch := omega) only [go_sem, Nat.reduceEqDiff, Nat.reduceAdd, Nat.reduceMul, Nat.reduceSub, Nat.reduceLeDiff, ↓reduceIte, reduceCtorEq, Int.reduceAdd, Int.reduceSub, Int.reduceMul, Int.reduceNeg, Int.reduceToNat, List.reduceReplicate, hro]
        exact DFin.sub (by repeat (first | assumption | exact sub_refl _ | refine sub_upd ?_ (by assumption) _)) (DFin.le (dR1_zero _) (DFin.refl ⟨rfl, rfl⟩))
      by_cases c3 : 31 < c
      · rw [bad (by omega)]
        simp (disch := omega) only [go_sem, Nat.reduceEqDiff, Nat.reduceAdd, Nat.reduceMul, Nat.reduceSub, Nat.reduceLeDiff, ↓reduceIte, reduceCtorEq, Int.reduceAdd, Int.reduceSub, Int.reduceMul, Int.reduceNeg, Int.reduceToNat, List.reduceReplicate, hro]
        exact DFin.sub (by repeat (first | assumption | exact sub_refl _ | refine sub_upd ?_ (by assumption) _)) (DFin.le (dR1_zero _) (DFin.refl ⟨rfl, rfl⟩))
      by_cases c2 : c < a
      · rw [bad (by omega)]
        simp (disch := omega) only [go_sem, Nat.reduceEqDiff, Nat.reduceAdd, Nat.reduceMul, Nat.reduceSub, Nat.reduceLeDiff, ↓reduceIte, reduceCtorEq, Int.reduceAdd, Int.reduceSub, Int.reduceMul, Int.reduceNeg, Int.reduceToNat, List.reduceReplicate, hro]
        exact DFin.sub (by repeat (first | assumption | exact sub_refl _ | refine sub_upd ?_ (by assumption) _)) (DFin.le (dR1_zero _) (DFin.refl ⟨rfl, rfl⟩))
      obtain ⟨fa, fb, hf⟩ := findD_waits s.q t
      simp (disch := omega) only [go_sem, Nat.reduceEqDiff, Nat.reduceAdd, Nat.reduceMul, Nat.reduceSub, Nat.reduceLeDiff, ↓reduceIte, reduceCtorEq, Int.reduceAdd, Int.reduceSub, Int.reduceMul, Int.reduceNeg, Int.reduceToNat, List.reduceReplicate, hro]
      refine (rfind_spec G s.q t _ hq hb hl).mono ?_
      rintro _ H1 ⟨rfl, rfl⟩
      rw [hf]
      cases hw : waitsB s.q t with
      | true =>
        rw [show beginL s t a c = (ZPS, 7) by rw [beginL, if_neg (by simp [hm]), if_neg (by omega), if_pos hw]]
        simp (disch := omega) only [go_sem, Nat.reduceEqDiff, Nat.reduceAdd, Nat.reduceMul, Nat.reduceSub, Nat.reduceLeDiff, ↓reduceIte, reduceCtorEq, Int.reduceAdd, Int.reduceSub, Int.reduceMul, Int.reduceNeg, Int.reduceToNat, List.reduceReplicate, hro]
        exact DFin.sub (by repeat (first | assumption | exact sub_refl _ | refine sub_upd ?_ (by assumption) _)) (DFin.le (dR1_zero _) (DFin.refl ⟨rfl, rfl⟩))
      | false =>
        cases hlo : s.locked with
        | true =>
          rw [show beginL s t a c = (ZPS, 8) by rw [beginL, if_neg (by simp [hm]), if_neg (by omega), if_neg (by simp [hw]), if_pos hlo]]
          simp (disch := omega) only [go_sem, Nat.reduceEqDiff, Nat.reduceAdd, Nat.reduceMul, Nat.reduceSub, Nat.reduceLeDiff, ↓reduceIte, reduceCtorEq, Int.reduceAdd, Int.reduceSub, Int.reduceMul, Int.reduceNeg, Int.reduceToNat, List.reduceReplicate, hro]
          exact DFin.sub (by repeat (first | assumption | exact sub_refl _ | refine sub_upd ?_ (by assumption) _)) (DFin.le (dR1_zero _) (DFin.refl ⟨rfl, rfl⟩))
        | false =>
          rw [show beginL s t a c = (⟨true, t, s.q⟩, 0) by rw [beginL, if_neg (by simp [hm]), if_neg (by omega), if_neg (by simp [hw]), if_neg (by simp [hlo])]]
          simp (disch := omega) only [go_sem, Nat.reduceEqDiff, Nat.reduceAdd, Nat.reduceMul, Nat.reduceSub, Nat.reduceLeDiff, ↓reduceIte, reduceCtorEq, Int.reduceAdd, Int.reduceSub, Int.reduceMul, Int.reduceNeg, Int.reduceToNat, List.reduceReplicate, hro]
          refine DCalls.leArgs (.cons (.refl _) (.cons (.refl _) (.cons .nilIs .nil))) ?_
          refine (copy_spec G s.q (-1) [] _ hq hl).mono ?_
          rintro _ H1 ⟨rfl, rfl⟩
          rw [setI_neg]
          simp (disch := omega) only [go_sem, Nat.reduceEqDiff, Nat.reduceAdd, Nat.reduceMul, Nat.reduceSub, Nat.reduceLeDiff, ↓reduceIte, reduceCtorEq, Int.reduceAdd, Int.reduceSub, Int.reduceMul, Int.reduceNeg, Int.reduceToNat, List.reduceReplicate, hro]
          exact DFin.sub (by repeat (first | assumption | exact sub_refl _ | refine sub_upd ?_ (by assumption) _)) (DFin.refl ⟨rfl, rfl⟩)

def dR2 (s : PS) (h : Bool × Int × Int) (e : Int) : DVal := .tuple [dPS s, dH h, dI e]
theorem dR2_zero (e : Int) : DLe (.tuple [.agg [.bool false, dI 0, .nilSlice], .agg [.bool false, dI 0, dI 0], dI e]) (dR2 ZPS ZH e) := DLe.tuple (.cons (.nilQ _ _) (.refl _))
theorem first_of {Q : Nat → Prop} : ∀ n, Q n → ∃ k, k ≤ n ∧ Q k ∧ ∀ j, j < k → ¬ Q j
  | 0, h => ⟨0, Nat.le_refl _, h, fun j hj => by omega⟩
  | n + 1, h => by
    by_cases h1 : ∃ j, j ≤ n ∧ Q j
    · obtain ⟨j, hj, hq⟩ := h1
      obtain ⟨k, k1, k2, k3⟩ := first_of j hq
      exact ⟨k, by omega, k2, k3⟩
    · exact ⟨n + 1, Nat.le_refl _, h, fun j hj hq => h1 ⟨j, by omega, hq⟩⟩
termination_by n => n
/-- The first caller of an open entry is the first one in its queue; no smaller entry that is open has one. -/
theorem openP_first {q : List (List Int)} {o : List Bool} {p : Nat × Int} (h : openP q o = some p) : ∃ l, q[p.1]? = some (p.2 :: l) ∧ o.getD p.1 false = true ∧ ∀ j, j < p.1 → o.getD j false = true → q.getD j [] = [] := by
  unfold openP at h
  have h1 := List.mem_of_find?_eq_some h
  have h2 := List.find?_some h
  obtain ⟨hlt, _, hmem⟩ := clp_mem h1
  simp only [Nat.sub_zero] at hlt hmem
  obtain ⟨k, hk, ⟨hk1, hk2⟩, hk3⟩ := first_of (Q := fun j => o.getD j false = true ∧ q.getD j [] ≠ []) p.1 ⟨by simpa using h2, by
    intro e; simp [hlt] at e; rw [e] at hmem; cases hmem⟩
  have hkl : k < q.length := by omega
  have hqk : q[k]? = some q[k] := List.getElem?_eq_getElem hkl
  have hg : q.getD k [] = q[k] := by simp [hkl]
  cases hr : q[k] with
  | nil => rw [hg, hr] at hk2; exact absurd rfl hk2
  | cons u l =>
    have hf := clp_found (q := q) 0 (fun j => o.getD j false) k u l (by rw [hqk, hr]) (by simpa using hk1) (fun j hj => by
      have := hk3 j hj
      rw [Nat.zero_add]
      cases h3 : o.getD j false
      · rw [Bool.false_and]
      · have h4 : q.getD j [] = [] := by
          cases h5 : q.getD j [] with
          | nil => rfl
          | cons a b => exact absurd ⟨h3, by rw [h5]; simp⟩ this
        rw [h4]; rfl)
    rw [h] at hf
    cases hf
    simp only [Nat.zero_add] at *
    refine ⟨l, by rw [hqk, hr], hk1, fun j hj h3 => ?_⟩
    cases h5 : q.getD j [] with
    | nil => rfl
    | cons a b => exact absurd ⟨h3, by rw [h5]; simp⟩ (hk3 j hj)
theorem openP_take {q : List (List Int)} {o : List Bool} {p : Nat × Int} (hm : mayQ q = true) (h : openP q o = some p) : (takeL q p.1).2.1 = p.2 := by
  obtain ⟨l, h1, _, _⟩ := openP_first h
  have hlt := (List.getElem?_eq_some_iff.1 h1).1
  rw [takeL_eq hm, if_neg (by omega)]
  have hg : q.getD p.1 [] = p.2 :: l := by rw [List.getD_eq_getElem?_getD, h1]; rfl
  rw [hg]
theorem rrelease_spec (G : Nat → DVal) (q : List (List Int)) (o : List Bool) (H : DHeap) (hm : mayQ q = true) (ho : o.length ≤ 1099511627776) :
    DCalls Try.prog G 81 [dIss q, dBs o] H (DRet (dR2 (releaseL q o).1 (releaseL q o).2 0) H) := by
  have hq := mayQ_len hm
  have hfl := mayQ_flat hm
  have hl : ∀ l ∈ q, l.length ≤ 1000000000 := fun l h => by have := mayQ_row hm h; omega
  have hl' : ∀ l ∈ q, l.length ≤ 1099511627776 := fun l h => by have := mayQ_row hm h; omega
  refine dcalls_intro Try.func81 Try.call81 rfl (by kernel_rfl) ?_
  simp (disch := omega) only [go_sem, Nat.reduceEqDiff, Nat.reduceAdd, Nat.reduceMul, Nat.reduceSub, Nat.reduceLeDiff, ↓reduceIte, reduceCtorEq, Int.reduceAdd, Int.reduceSub, Int.reduceMul, Int.reduceNeg, Int.reduceToNat, List.reduceReplicate, dBs]
  intro ra hra; dsimp only at hra
  simp (disch := omega) only [go_sem, Nat.reduceEqDiff, Nat.reduceAdd, Nat.reduceMul, Nat.reduceSub, Nat.reduceLeDiff, ↓reduceIte, reduceCtorEq, Int.reduceAdd, Int.reduceSub, Int.reduceMul, Int.reduceNeg, Int.reduceToNat, List.reduceReplicate]
  intro rb hrb; dsimp only at hrb
  rw [upd_eq_none] at hrb
  have hHb := hrb.2.2
  have hsub := sub_refl H
  simp (disch := omega) only [go_sem, Nat.reduceEqDiff, Nat.reduceAdd, Nat.reduceMul, Nat.reduceSub, Nat.reduceLeDiff, ↓reduceIte, reduceCtorEq, Int.reduceAdd, Int.reduceSub, Int.reduceMul, Int.reduceNeg, Int.reduceToNat, List.reduceReplicate, hrb]
  refine (ropen_spec G q o _ (by omega) (by omega) hl ho).mono ?_
  rintro _ H2 ⟨rfl, rfl⟩
  cases hp : openP q o with
  | none =>
    rw [openD, if_pos hm, releaseL, hp]
    simp (disch := omega) only [go_sem, Nat.reduceEqDiff, Nat.reduceAdd, Nat.reduceMul, Nat.reduceSub, Nat.reduceLeDiff, ↓reduceIte, reduceCtorEq, Int.reduceAdd, Int.reduceSub, Int.reduceMul, Int.reduceNeg, Int.reduceToNat, List.reduceReplicate, hrb]
    refine DCalls.leArgs (.cons (.refl _) (.cons (.refl _) (.cons .nilIs .nil))) ?_
    refine (copy_spec G q (-1) [] _ (by omega) hl').mono ?_
    rintro _ H1 ⟨rfl, rfl⟩
    rw [setI_neg]
    simp (disch := omega) only [go_sem, Nat.reduceEqDiff, Nat.reduceAdd, Nat.reduceMul, Nat.reduceSub, Nat.reduceLeDiff, ↓reduceIte, reduceCtorEq, Int.reduceAdd, Int.reduceSub, Int.reduceMul, Int.reduceNeg, Int.reduceToNat, List.reduceReplicate, hrb]
    exact DFin.sub (by repeat (first | assumption | exact sub_refl _ | refine sub_upd ?_ (by assumption) _)) (DFin.refl ⟨rfl, rfl⟩)
  | some p =>
    rw [openD, if_pos hm, releaseL, hp]
    simp (disch := omega) only [go_sem, Nat.reduceEqDiff, Nat.reduceAdd, Nat.reduceMul, Nat.reduceSub, Nat.reduceLeDiff, ↓reduceIte, reduceCtorEq, Int.reduceAdd, Int.reduceSub, Int.reduceMul, Int.reduceNeg, Int.reduceToNat, List.reduceReplicate, hrb]
    refine (rtake_spec G q p.1 _ (by omega) (by omega) hl).mono ?_
    rintro _ H2 ⟨rfl, rfl⟩
    simp (disch := omega) only [go_sem, Nat.reduceEqDiff, Nat.reduceAdd, Nat.reduceMul, Nat.reduceSub, Nat.reduceLeDiff, ↓reduceIte, reduceCtorEq, Int.reduceAdd, Int.reduceSub, Int.reduceMul, Int.reduceNeg, Int.reduceToNat, List.reduceReplicate, hrb, openP_take hm hp]
    exact DFin.sub (by repeat (first | assumption | exact sub_refl _ | refine sub_upd ?_ (by assumption) _)) (DFin.refl ⟨rfl, rfl⟩)

theorem rend_spec (G : Nat → DVal) (s : PS) (o : List Bool) (H : DHeap) (hq : s.q.length ≤ 1099511627776) (hb : s.q.flatten.length ≤ 1099511627776) (hl : ∀ l ∈ s.q, l.length ≤ 1099511627776) (ho : o.length ≤ 1099511627776) :
    DCalls Try.prog G 52 [dPS s, dBs o] H (DRet (dR2 (endL s o).1 (endL s o).2.1 (endL s o).2.2) H) := by
  refine dcalls_intro Try.func52 Try.call52 rfl (by kernel_rfl) ?_
  simp (disch := omega) only [go_sem, Nat.reduceEqDiff, Nat.reduceAdd, Nat.reduceMul, Nat.reduceSub, Nat.reduceLeDiff, ↓reduceIte, reduceCtorEq, Int.reduceAdd, Int.reduceSub, Int.reduceMul, Int.reduceNeg, Int.reduceToNat, List.reduceReplicate, dBs]
  intro rx hrx; dsimp only at hrx
  simp (disch := omega) only [go_sem, Nat.reduceEqDiff, Nat.reduceAdd, Nat.reduceMul, Nat.reduceSub, Nat.reduceLeDiff, ↓reduceIte, reduceCtorEq, Int.reduceAdd, Int.reduceSub, Int.reduceMul, Int.reduceNeg, Int.reduceToNat, List.reduceReplicate]
  intro ra hra; dsimp only at hra
  rw [upd_eq_none] at hra
  simp (disch := omega) only [go_sem, Nat.reduceEqDiff, Nat.reduceAdd, Nat.reduceMul, Nat.reduceSub, Nat.reduceLeDiff, ↓reduceIte, reduceCtorEq, Int.reduceAdd, Int.reduceSub, Int.reduceMul, Int.reduceNeg, Int.reduceToNat, List.reduceReplicate, hra]
  intro rb hrb; dsimp only at hrb
  simp only [upd_eq_none] at hrb
  have h2 := hra.2.2
  have h3 := hrb.2.2.2.2
  have hsub := sub_refl H
  simp (disch := omega) only [go_sem, Nat.reduceEqDiff, Nat.reduceAdd, Nat.reduceMul, Nat.reduceSub, Nat.reduceLeDiff, ↓reduceIte, reduceCtorEq, Int.reduceAdd, Int.reduceSub, Int.reduceMul, Int.reduceNeg, Int.reduceToNat, List.reduceReplicate, hra, hrb]
  refine (rlmay_spec G s _ hq hb hl).mono ?_
  rintro _ H1 ⟨rfl, rfl⟩
  cases hm : mayS s with
  | false =>
    rw [show endL s o = (ZPS, ZH, 2) by simp [endL, hm]]
    simp (disch := omega) only [go_sem, Nat.reduceEqDiff, Nat.reduceAdd, Nat.reduceMul, Nat.reduceSub, Nat.reduceLeDiff, ↓reduceIte, reduceCtorEq, Int.reduceAdd, Int.reduceSub, Int.reduceMul, Int.reduceNeg, Int.reduceToNat, List.reduceReplicate, hra, hrb]
    exact DFin.sub (by repeat (first | assumption | exact sub_refl _ | refine sub_upd ?_ (by assumption) _)) (DFin.le (dR2_zero _) (DFin.refl ⟨rfl, rfl⟩))
  | true =>
    rw [show endL s o = finishL s s o by simp [endL, hm]]
    cases hlo : s.locked with
    | false =>
      rw [show finishL s s o = (ZPS, ZH, 8) by simp [finishL, hlo]]
      simp (disch := omega) only [go_sem, Nat.reduceEqDiff, Nat.reduceAdd, Nat.reduceMul, Nat.reduceSub, Nat.reduceLeDiff, ↓reduceIte, reduceCtorEq, Int.reduceAdd, Int.reduceSub, Int.reduceMul, Int.reduceNeg, Int.reduceToNat, List.reduceReplicate, hra, hrb]
      exact DFin.sub (by repeat (first | assumption | exact sub_refl _ | refine sub_upd ?_ (by assumption) _)) (DFin.le (dR2_zero _) (DFin.refl ⟨rfl, rfl⟩))
    | true =>
      rw [show finishL s s o = ((releaseL s.q o).1, (releaseL s.q o).2, 0) by simp [finishL, hlo]]
      simp (disch := omega) only [go_sem, Nat.reduceEqDiff, Nat.reduceAdd, Nat.reduceMul, Nat.reduceSub, Nat.reduceLeDiff, ↓reduceIte, reduceCtorEq, Int.reduceAdd, Int.reduceSub, Int.reduceMul, Int.reduceNeg, Int.reduceToNat, List.reduceReplicate, hra, hrb]
      refine (rrelease_spec G s.q o _ (mayS_q hm) ho).mono ?_
      rintro _ H1 ⟨rfl, rfl⟩
      simp (disch := omega) only [go_sem, Nat.reduceEqDiff, Nat.reduceAdd, Nat.reduceMul, Nat.reduceSub, Nat.reduceLeDiff, ↓reduceIte, reduceCtorEq, Int.reduceAdd, Int.reduceSub, Int.reduceMul, Int.reduceNeg, Int.reduceToNat, List.reduceReplicate, hra, hrb, dR2, dH]
      exact DFin.sub (by repeat (first | assumption | exact sub_refl _ | refine sub_upd ?_ (by assumption) _)) (DFin.refl ⟨rfl, rfl⟩)

theorem rwait_spec (G : Nat → DVal) (s : PS) (n : Int) (o : List Bool) (H : DHeap) (hq : s.q.length ≤ 1099511627776) (hb : s.q.flatten.length ≤ 1099511627776) (hl : ∀ l ∈ s.q, l.length ≤ 1099511627776) (ho : o.length ≤ 1099511627776) :
    DCalls Try.prog G 53 [dPS s, dI n, dBs o] H (DRet (dR2 (waitL s n o).1 (waitL s n o).2.1 (waitL s n o).2.2) H) := by
  refine dcalls_intro Try.func53 Try.call53 rfl (by kernel_rfl) ?_
  simp (disch := omega) only [go_sem, Nat.reduceEqDiff, Nat.reduceAdd, Nat.reduceMul, Nat.reduceSub, Nat.reduceLeDiff, ↓reduceIte, reduceCtorEq, Int.reduceAdd, Int.reduceSub, Int.reduceMul, Int.reduceNeg, Int.reduceToNat, List.reduceReplicate, dBs]
  intro rx hrx; dsimp only at hrx
  simp (disch := omega) only [go_sem, Nat.reduceEqDiff, Nat.reduceAdd, Nat.reduceMul, Nat.reduceSub, Nat.reduceLeDiff, ↓reduceIte, reduceCtorEq, Int.reduceAdd, Int.reduceSub, Int.reduceMul, Int.reduceNeg, Int.reduceToNat, List.reduceReplicate]
  intro ra hra; dsimp only at hra
  rw [upd_eq_none] at hra
  simp (disch := omega) only [go_sem, Nat.reduceEqDiff, Nat.reduceAdd, Nat.reduceMul, Nat.reduceSub, Nat.reduceLeDiff, ↓reduceIte, reduceCtorEq, Int.reduceAdd, Int.reduceSub, Int.reduceMul, Int.reduceNeg, Int.reduceToNat, List.reduceReplicate, hra]
  intro rb hrb; dsimp only at hrb
  simp only [upd_eq_none] at hrb
  have h2 := hra.2.2
  have h3 := hrb.2.2.2.2
  have hsub := sub_refl H
  simp (disch := omega) only [go_sem, Nat.reduceEqDiff, Nat.reduceAdd, Nat.reduceMul, Nat.reduceSub, Nat.reduceLeDiff, ↓reduceIte, reduceCtorEq, Int.reduceAdd, Int.reduceSub, Int.reduceMul, Int.reduceNeg, Int.reduceToNat, List.reduceReplicate, hra, hrb]
  refine (rlmay_spec G s _ hq hb hl).mono ?_
  rintro _ H1 ⟨rfl, rfl⟩
  cases hm : mayS s with
  | false =>
    rw [show waitL s n o = (ZPS, ZH, 2) by simp [waitL, hm]]
    simp (disch := omega) only [go_sem, Nat.reduceEqDiff, Nat.reduceAdd, Nat.reduceMul, Nat.reduceSub, Nat.reduceLeDiff, ↓reduceIte, reduceCtorEq, Int.reduceAdd, Int.reduceSub, Int.reduceMul, Int.reduceNeg, Int.reduceToNat, List.reduceReplicate, hra, hrb]
    exact DFin.sub (by repeat (first | assumption | exact sub_refl _ | refine sub_upd ?_ (by assumption) _)) (DFin.le (dR2_zero _) (DFin.refl ⟨rfl, rfl⟩))
  | true =>
    have hmq := mayS_q hm
    have hfl := mayQ_flat hmq
    by_cases c1 : n < 0
    · rw [show waitL s n o = (ZPS, ZH, 4) by rw [waitL, if_neg (by simp [hm]), if_pos (by omega)]]
      simp (disch := omega) only [go_sem, Nat.reduceEqDiff, Nat.reduceAdd, Nat.reduceMul, Nat.reduceSub, Nat.reduceLeDiff, ↓reduceIte, reduceCtorEq, Int.reduceAdd, Int.reduceSub, Int.reduceMul, Int.reduceNeg, Int.reduceToNat, List.reduceReplicate, hra, hrb]
      exact DFin.sub (by repeat (first | assumption | exact sub_refl _ | refine sub_upd ?_ (by assumption) _)) (DFin.le (dR2_zero _) (DFin.refl ⟨rfl, rfl⟩))
    by_cases c2 : (s.q.length : Int) ≤ n
    · rw [show waitL s n o = (ZPS, ZH, 4) by rw [waitL, if_neg (by simp [hm]), if_pos (by omega)]]
      simp (disch := omega) only [go_sem, Nat.reduceEqDiff, Nat.reduceAdd, Nat.reduceMul, Nat.reduceSub, Nat.reduceLeDiff, ↓reduceIte, reduceCtorEq, Int.reduceAdd, Int.reduceSub, Int.reduceMul, Int.reduceNeg, Int.reduceToNat, List.reduceReplicate, hra, hrb]
      exact DFin.sub (by repeat (first | assumption | exact sub_refl _ | refine sub_upd ?_ (by assumption) _)) (DFin.le (dR2_zero _) (DFin.refl ⟨rfl, rfl⟩))
    obtain ⟨m, rfl⟩ : ∃ m : Nat, n = m := ⟨n.toNat, by omega⟩
    have hmn : m < s.q.length := by omega
    rw [show waitL s m o = finishL s (waitS s m) o by rw [waitL, if_neg (by simp [hm]), if_neg (by omega), Int.toNat_natCast]]
    cases hlo : s.locked with
    | false =>
      rw [show finishL s (waitS s m) o = (ZPS, ZH, 8) by simp [finishL, hlo]]
      simp (disch := omega) only [go_sem, Nat.reduceEqDiff, Nat.reduceAdd, Nat.reduceMul, Nat.reduceSub, Nat.reduceLeDiff, ↓reduceIte, reduceCtorEq, Int.reduceAdd, Int.reduceSub, Int.reduceMul, Int.reduceNeg, Int.reduceToNat, List.reduceReplicate, hra, hrb]
      exact DFin.sub (by repeat (first | assumption | exact sub_refl _ | refine sub_upd ?_ (by assumption) _)) (DFin.le (dR2_zero _) (DFin.refl ⟨rfl, rfl⟩))
    | true =>
      rw [show finishL s (waitS s m) o = ((releaseL (waitS s m).q o).1, (releaseL (waitS s m).q o).2, 0) by simp [finishL, hlo]]
      simp (disch := omega) only [go_sem, Nat.reduceEqDiff, Nat.reduceAdd, Nat.reduceMul, Nat.reduceSub, Nat.reduceLeDiff, ↓reduceIte, reduceCtorEq, Int.reduceAdd, Int.reduceSub, Int.reduceMul, Int.reduceNeg, Int.reduceToNat, List.reduceReplicate, hra, hrb]
      refine (rput_spec G s.q m s.owner _ hq (by omega) (fun l h => by have := mayQ_row hmq h; omega)).mono ?_
      rintro _ H1 ⟨rfl, rfl⟩
      simp (disch := omega) only [go_sem, Nat.reduceEqDiff, Nat.reduceAdd, Nat.reduceMul, Nat.reduceSub, Nat.reduceLeDiff, ↓reduceIte, reduceCtorEq, Int.reduceAdd, Int.reduceSub, Int.reduceMul, Int.reduceNeg, Int.reduceToNat, List.reduceReplicate, hra, hrb]
      refine (rrelease_spec G (waitS s m).q o _ (waitS_may hm hmn hlo) ho).mono ?_
      rintro _ H1 ⟨rfl, rfl⟩
      simp (disch := omega) only [go_sem, Nat.reduceEqDiff, Nat.reduceAdd, Nat.reduceMul, Nat.reduceSub, Nat.reduceLeDiff, ↓reduceIte, reduceCtorEq, Int.reduceAdd, Int.reduceSub, Int.reduceMul, Int.reduceNeg, Int.reduceToNat, List.reduceReplicate, hra, hrb, dR2, dH]
      exact DFin.sub (by repeat (first | assumption | exact sub_refl _ | refine sub_upd ?_ (by assumption) _)) (DFin.refl ⟨rfl, rfl⟩)

theorem rleave_spec (G : Nat → DVal) (s : PS) (t : Int) (H : DHeap) (hq : s.q.length ≤ 1099511627776) (hb : s.q.flatten.length ≤ 1099511627776) (hl : ∀ l ∈ s.q, l.length ≤ 1000000000) :
    DCalls Try.prog G 55 [dPS s, dI t] H (DRet (dR1 (leaveL s t).1 (leaveL s t).2) H) := by
  have hl' : ∀ l ∈ s.q, l.length ≤ 1099511627776 := fun l h => Nat.le_trans (hl l h) (by omega)
  refine dcalls_intro Try.func55 Try.call55 rfl (by kernel_rfl) ?_
  simp (disch := omega) only [go_sem, Nat.reduceEqDiff, Nat.reduceAdd, Nat.reduceMul, Nat.reduceSub, Nat.reduceLeDiff, ↓reduceIte, reduceCtorEq, Int.reduceAdd, Int.reduceSub, Int.reduceMul, Int.reduceNeg, Int.reduceToNat, List.reduceReplicate]
  intro rb hrb; dsimp only at hrb
  simp (disch := omega) only [go_sem, Nat.reduceEqDiff, Nat.reduceAdd, Nat.reduceMul, Nat.reduceSub, Nat.reduceLeDiff, ↓reduceIte, reduceCtorEq, Int.reduceAdd, Int.reduceSub, Int.reduceMul, Int.reduceNeg, Int.reduceToNat, List.reduceReplicate]
  intro ro hro; dsimp only at hro
  rw [upd_eq_none] at hro
  have hHo := hro.2.2
  have hsub := sub_refl H
  simp (disch := omega) only [go_sem, Nat.reduceEqDiff, Nat.reduceAdd, Nat.reduceMul, Nat.reduceSub, Nat.reduceLeDiff, ↓reduceIte, reduceCtorEq, Int.reduceAdd, Int.reduceSub, Int.reduceMul, Int.reduceNeg, Int.reduceToNat, List.reduceReplicate, hro]
  refine (rlmay_spec G s _ hq hb hl').mono ?_
  rintro _ H1 ⟨rfl, rfl⟩
  cases hm : mayS s with
  | false =>
    rw [show leaveL s t = (ZPS, 2) by simp [leaveL, hm]]
    simp (disch := omega) only [go_sem, Nat.reduceEqDiff, Nat.reduceAdd, Nat.reduceMul, Nat.reduceSub, Nat.reduceLeDiff, ↓reduceIte, reduceCtorEq, Int.reduceAdd, Int.reduceSub, Int.reduceMul, Int.reduceNeg, Int.reduceToNat, List.reduceReplicate, hro]
    exact DFin.sub (by repeat (first | assumption | exact sub_refl _ | refine sub_upd ?_ (by assumption) _)) (DFin.le (dR1_zero _) (DFin.refl ⟨rfl, rfl⟩))
  | true =>
    simp (disch := omega) only [go_sem, Nat.reduceEqDiff, Nat.reduceAdd, Nat.reduceMul, Nat.reduceSub, Nat.reduceLeDiff, ↓reduceIte, reduceCtorEq, Int.reduceAdd, Int.reduceSub, Int.reduceMul, Int.reduceNeg, Int.reduceToNat, List.reduceReplicate, hro]
    refine (rremove_spec G s.q t _ hq hb hl).mono ?_
    rintro _ H2 ⟨rfl, rfl⟩
    by_cases he : (removeL s.q t).2 = 0
    · rw [show leaveL s t = (⟨s.locked, s.owner, (removeL s.q t).1⟩, 0) by rw [leaveL, if_neg (by simp [hm]), if_neg (by simp [he])]]
      simp (disch := omega) only [go_sem, Nat.reduceEqDiff, Nat.reduceAdd, Nat.reduceMul, Nat.reduceSub, Nat.reduceLeDiff, ↓reduceIte, reduceCtorEq, Int.reduceAdd, Int.reduceSub, Int.reduceMul, Int.reduceNeg, Int.reduceToNat, List.reduceReplicate, hro, he]
      exact DFin.sub (by repeat (first | assumption | exact sub_refl _ | refine sub_upd ?_ (by assumption) _)) (DFin.refl ⟨rfl, rfl⟩)
    · rw [show leaveL s t = (ZPS, (removeL s.q t).2) by rw [leaveL, if_neg (by simp [hm]), if_pos he]]
      simp (disch := omega) only [go_sem, Nat.reduceEqDiff, Nat.reduceAdd, Nat.reduceMul, Nat.reduceSub, Nat.reduceLeDiff, ↓reduceIte, reduceCtorEq, Int.reduceAdd, Int.reduceSub, Int.reduceMul, Int.reduceNeg, Int.reduceToNat, List.reduceReplicate, hro, he]
      exact DFin.sub (by repeat (first | assumption | exact sub_refl _ | refine sub_upd ?_ (by assumption) _)) (DFin.le (dR1_zero _) (DFin.refl ⟨rfl, rfl⟩))

/-- Same, of states whose queues are lent. -/
theorem lsame_spec (G : Nat → DVal) (hG : ∀ g, ∃ r o, G g = .optr r o) (s t : PS) (u v : DVal) (H : DHeap) (hu : Views H u s.q) (hv : Views H v t.q) (hu1 : u.cells = [u] ∧ u.one = true) (hv1 : v.cells = [v] ∧ v.one = true) (ha : s.q.length ≤ 1099511627776) (hb : t.q.length ≤ 1099511627776) (hal : ∀ l ∈ s.q, l.length ≤ 1099511627776) (hbl : ∀ l ∈ t.q, l.length ≤ 1099511627776) :
    DCalls Try.prog G 57 [.agg [.bool s.locked, dI s.owner, u], .agg [.bool t.locked, dI t.owner, v]] H (DRet (.bool (decide (s.locked = t.locked ∧ s.owner = t.owner ∧ s.q = t.q))) H) := by
  obtain ⟨sl, so, sq⟩ := s
  obtain ⟨tl, to, tq⟩ := t
  dsimp only at *
  refine dcalls_intro Try.func57 Try.call57 rfl (by kernel_rfl) ?_
  simp (disch := omega) only [go_sem, Nat.reduceEqDiff, Nat.reduceAdd, Nat.reduceMul, Nat.reduceSub, Nat.reduceLeDiff, ↓reduceIte, reduceCtorEq, Int.reduceAdd, Int.reduceSub, Int.reduceMul, Int.reduceNeg, Int.reduceToNat, List.reduceReplicate, hu1.1, hu1.2]
  intro ra hra; dsimp only at hra
  simp (disch := omega) only [go_sem, Nat.reduceEqDiff, Nat.reduceAdd, Nat.reduceMul, Nat.reduceSub, Nat.reduceLeDiff, ↓reduceIte, reduceCtorEq, Int.reduceAdd, Int.reduceSub, Int.reduceMul, Int.reduceNeg, Int.reduceToNat, List.reduceReplicate, hv1.1, hv1.2]
  intro rb hrb; dsimp only at hrb
  rw [upd_eq_none] at hrb
  have hHb := hrb.2.2
  have hsub := sub_refl H
  simp (disch := omega) only [go_sem, Nat.reduceEqDiff, Nat.reduceAdd, Nat.reduceMul, Nat.reduceSub, Nat.reduceLeDiff, ↓reduceIte, reduceCtorEq, Int.reduceAdd, Int.reduceSub, Int.reduceMul, Int.reduceNeg, Int.reduceToNat, List.reduceReplicate, hrb]
  by_cases h1 : sl = tl
  · subst h1
    have hbb : (sl == sl) = true := by simp
    by_cases h2 : so = to
    · subst h2
      simp (disch := omega) only [go_sem, Nat.reduceEqDiff, Nat.reduceAdd, Nat.reduceMul, Nat.reduceSub, Nat.reduceLeDiff, ↓reduceIte, reduceCtorEq, Int.reduceAdd, Int.reduceSub, Int.reduceMul, Int.reduceNeg, Int.reduceToNat, List.reduceReplicate, hrb, hbb]
      refine (same_own G hG u v sq tq _ (hu.up ?s1) (hv.up ?s2) ha hb hal hbl).mono ?_
      case s1 => exact (by repeat (first | assumption | exact sub_refl _ | refine sub_upd ?_ (by assumption) _))
      case s2 => exact (by repeat (first | assumption | exact sub_refl _ | refine sub_upd ?_ (by assumption) _))
      rintro _ H2 ⟨rfl, rfl⟩
      simp (disch := omega) only [go_sem, Nat.reduceEqDiff, Nat.reduceAdd, Nat.reduceMul, Nat.reduceSub, Nat.reduceLeDiff, ↓reduceIte, reduceCtorEq, Int.reduceAdd, Int.reduceSub, Int.reduceMul, Int.reduceNeg, Int.reduceToNat, List.reduceReplicate, hrb]
      refine DFin.sub (by repeat (first | assumption | exact sub_refl _ | refine sub_upd ?_ (by assumption) _)) (DFin.refl ⟨?_, rfl⟩)
      simp
    · simp (disch := omega) only [go_sem, Nat.reduceEqDiff, Nat.reduceAdd, Nat.reduceMul, Nat.reduceSub, Nat.reduceLeDiff, ↓reduceIte, reduceCtorEq, Int.reduceAdd, Int.reduceSub, Int.reduceMul, Int.reduceNeg, Int.reduceToNat, List.reduceReplicate, hrb, hbb]
      refine DFin.sub (by repeat (first | assumption | exact sub_refl _ | refine sub_upd ?_ (by assumption) _)) (DFin.refl ⟨?_, rfl⟩)
      simp [h2]
  · have hbb : (sl == tl) = false := by simpa using h1
    simp (disch := omega) only [go_sem, Nat.reduceEqDiff, Nat.reduceAdd, Nat.reduceMul, Nat.reduceSub, Nat.reduceLeDiff, ↓reduceIte, reduceCtorEq, Int.reduceAdd, Int.reduceSub, Int.reduceMul, Int.reduceNeg, Int.reduceToNat, List.reduceReplicate, hrb, hbb]
    refine DFin.sub (by repeat (first | assumption | exact sub_refl _ | refine sub_upd ?_ (by assumption) _)) (DFin.refl ⟨?_, rfl⟩)
    simp [h1]
end Go.Dl

-- Chapter 32: what the calls return, seen as memory that lasts; Active; the examples of the chapter.
namespace Go.Dl
open Go Go.Proofs
set_option maxRecDepth 10000
set_option maxHeartbeats 1000000

theorem OwnR1.frozen {P : Program} {G : Nat → DVal} {f : FuncId} {args : List DVal} {H : DHeap} {s : PS} {e : Int} (h : DCalls P G f args H (OwnR1 s e H)) : DCalls P G f args H (DRet (dR1 s e) H) :=
  h.ghost fun x H' ⟨u, hx, hu⟩ => ⟨_, _, _, hx, ((hu.ghost.agg1 (pre := [.bool s.locked, dI s.owner]) (post := []) rfl rfl).tuple1 (pre := []) (post := [dI e]) rfl rfl), rfl, rfl⟩
theorem OwnR2.frozen {P : Program} {G : Nat → DVal} {f : FuncId} {args : List DVal} {H : DHeap} {s : PS} {h : Bool × Int × Int} {e : Int} (hc : DCalls P G f args H (OwnR2 s h e H)) : DCalls P G f args H (DRet (dR2 s h e) H) :=
  hc.ghost fun x H' ⟨u, hx, hu⟩ => ⟨_, _, _, hx, ((hu.ghost.agg1 (pre := [.bool s.locked, dI s.owner]) (post := []) rfl rfl).tuple1 (pre := []) (post := [dH h, dI e]) rfl rfl), rfl, rfl⟩

theorem fsame_spec (G : Nat → DVal) (hG : ∀ g, ∃ r o, G g = .optr r o) (s t : PS) (H : DHeap) (ha : s.q.length ≤ 1099511627776) (hb : t.q.length ≤ 1099511627776) (hal : ∀ l ∈ s.q, l.length ≤ 1099511627776) (hbl : ∀ l ∈ t.q, l.length ≤ 1099511627776) :
    DCalls Try.prog G 57 [dPS s, dPS t] H (DRet (.bool (decide (s.locked = t.locked ∧ s.owner = t.owner ∧ s.q = t.q))) H) :=
  lsame_spec G hG s t _ _ H (.frozen _ _) (.frozen _ _) ⟨rfl, rfl⟩ ⟨rfl, rfl⟩ ha hb hal hbl

def activeL (b : Int) (l : List Int) : Int := l.foldl max b
theorem foldl_take_max (b : Int) (l : List Int) (k : Nat) (h : k < l.length) : (l.take (k + 1)).foldl max b = max ((l.take k).foldl max b) l[k] := by
  rw [List.take_add_one, List.getElem?_eq_getElem h, List.foldl_append]; rfl
theorem ractive_spec (G : Nat → DVal) (b : Int) (l : List Int) (H : DHeap) (hl : l.length ≤ 1099511627776) : DCalls Try.prog G 60 [dI b, dIs l] H (DRet (dI (activeL b l)) H) := by
  refine dcalls_intro Try.func60 Try.call60 rfl (by kernel_rfl) ?_
  simp (disch := omega) only [go_sem, Nat.reduceEqDiff, Nat.reduceAdd, Nat.reduceMul, Nat.reduceSub, Nat.reduceLeDiff, ↓reduceIte, reduceCtorEq, Int.reduceAdd, Int.reduceSub, Int.reduceMul, Int.reduceNeg, Int.reduceToNat, List.reduceReplicate]
  obtain ⟨I, hI⟩ : ∃ I : Nat → (Nat → DVal) → DHeap → Prop, ∀ k env heap, I k env heap ↔ (heap = H ∧ env 0 = dI ((l.take k).foldl max b) ∧ env 1 = dIs l ∧ env 5 = dI k ∧ k ≤ l.length) := ⟨_, fun _ _ _ => Iff.rfl⟩
  refine DLoop.run I (fun k => l.length - k) 0 ((hI _ _ _).2 ?_) ?_
  · simp (disch := omega) only [go_sem, Nat.reduceEqDiff, Nat.reduceAdd, Nat.reduceMul, Nat.reduceSub, Nat.reduceLeDiff, ↓reduceIte, reduceCtorEq, Int.reduceAdd, Int.reduceSub, Int.reduceMul, Int.reduceNeg, Int.reduceToNat, List.reduceReplicate]
    (repeat' apply And.intro) <;> (try first | rfl | assumption | omega)
  · intro k env heap hk
    obtain ⟨rfl, g0, g1, g5, hk⟩ := (hI _ _ _).1 hk
    by_cases hlt : k < l.length
    · by_cases hx : l[k] > (l.take k).foldl max b
      · simp (disch := omega) only [go_sem, Nat.reduceEqDiff, Nat.reduceAdd, Nat.reduceMul, Nat.reduceSub, Nat.reduceLeDiff, ↓reduceIte, reduceCtorEq, Int.reduceAdd, Int.reduceSub, Int.reduceMul, Int.reduceNeg, Int.reduceToNat, List.reduceReplicate, g0, g1, g5]
        refine ⟨k + 1, _, GhostS.refl _, (hI _ _ _).2 ?_, by omega⟩
        simp (disch := omega) only [go_sem, Nat.reduceEqDiff, Nat.reduceAdd, Nat.reduceMul, Nat.reduceSub, Nat.reduceLeDiff, ↓reduceIte, reduceCtorEq, Int.reduceAdd, Int.reduceSub, Int.reduceMul, Int.reduceNeg, Int.reduceToNat, List.reduceReplicate, g0, g1, g5]
        (repeat' apply And.intro) <;> (try first | rfl | assumption | omega)
        rw [foldl_take_max _ _ _ hlt, Int.max_eq_right (by omega)]
      · simp (disch := omega) only [go_sem, Nat.reduceEqDiff, Nat.reduceAdd, Nat.reduceMul, Nat.reduceSub, Nat.reduceLeDiff, ↓reduceIte, reduceCtorEq, Int.reduceAdd, Int.reduceSub, Int.reduceMul, Int.reduceNeg, Int.reduceToNat, List.reduceReplicate, g0, g1, g5]
        refine ⟨k + 1, _, GhostS.refl _, (hI _ _ _).2 ?_, by omega⟩
        simp (disch := omega) only [go_sem, Nat.reduceEqDiff, Nat.reduceAdd, Nat.reduceMul, Nat.reduceSub, Nat.reduceLeDiff, ↓reduceIte, reduceCtorEq, Int.reduceAdd, Int.reduceSub, Int.reduceMul, Int.reduceNeg, Int.reduceToNat, List.reduceReplicate, g0, g1, g5]
        (repeat' apply And.intro) <;> (try first | rfl | assumption | omega)
        rw [foldl_take_max _ _ _ hlt, Int.max_eq_left (by omega)]
    · simp (disch := omega) only [go_sem, Nat.reduceEqDiff, Nat.reduceAdd, Nat.reduceMul, Nat.reduceSub, Nat.reduceLeDiff, ↓reduceIte, reduceCtorEq, Int.reduceAdd, Int.reduceSub, Int.reduceMul, Int.reduceNeg, Int.reduceToNat, List.reduceReplicate, g0, g1, g5]
      have : k = l.length := by omega
      subst this
      rw [List.take_length]
      exact DFin.refl ⟨rfl, rfl⟩
theorem max_spec (G : Nat → DVal) (b : Int) (l : List Int) (H : DHeap) (hl : l.length < 1099511627776) : DCalls Try.prog G 82 [dIs (b :: l)] H (DRet (dI (activeL b l)) H) := by
  refine dcalls_intro Try.func82 Try.call82 rfl (by kernel_rfl) ?_
  have h1 : ¬ ((l.length + 1 : Nat) : Int) < 1 := by omega
  simp (disch := omega) only [go_sem, Nat.reduceEqDiff, Nat.reduceAdd, Nat.reduceMul, Nat.reduceSub, Nat.reduceLeDiff, ↓reduceIte, reduceCtorEq, Int.reduceAdd, Int.reduceSub, Int.reduceMul, Int.reduceNeg, Int.reduceToNat, List.reduceReplicate, h1]
  obtain ⟨I, hI⟩ : ∃ I : Nat → (Nat → DVal) → DHeap → Prop, ∀ k env heap, I k env heap ↔ (heap = H ∧ env 3 = dI ((l.take k).foldl max b) ∧ env 0 = dIs (b :: l) ∧ env 4 = dI (k + 1) ∧ k ≤ l.length) := ⟨_, fun _ _ _ => Iff.rfl⟩
  refine DLoop.run I (fun k => l.length - k) 0 ((hI _ _ _).2 ?_) ?_
  · simp (disch := omega) only [go_sem, Nat.reduceEqDiff, Nat.reduceAdd, Nat.reduceMul, Nat.reduceSub, Nat.reduceLeDiff, ↓reduceIte, reduceCtorEq, Int.reduceAdd, Int.reduceSub, Int.reduceMul, Int.reduceNeg, Int.reduceToNat, List.reduceReplicate]
    (repeat' apply And.intro) <;> (try first | rfl | assumption | omega)
  · intro k env heap hk
    obtain ⟨rfl, g0, g1, g5, hk⟩ := (hI _ _ _).1 hk
    by_cases hlt : k < l.length
    · have hx : (List.map dI (b :: l))[((k : Int) + 1).toNat]? = some (dI l[k]) := by
        rw [show ((k : Int) + 1).toNat = k + 1 by omega]; simp [hlt]
      by_cases hg : l[k] > (l.take k).foldl max b
      · simp (disch := omega) only [go_sem, Nat.reduceEqDiff, Nat.reduceAdd, Nat.reduceMul, Nat.reduceSub, Nat.reduceLeDiff, ↓reduceIte, reduceCtorEq, Int.reduceAdd, Int.reduceSub, Int.reduceMul, Int.reduceNeg, Int.reduceToNat, List.reduceReplicate, g0, g1, g5, hx, hg, gt_iff_lt]
        refine ⟨k + 1, _, GhostS.refl _, (hI _ _ _).2 ?_, by omega⟩
        simp (disch := omega) only [go_sem, Nat.reduceEqDiff, Nat.reduceAdd, Nat.reduceMul, Nat.reduceSub, Nat.reduceLeDiff, ↓reduceIte, reduceCtorEq, Int.reduceAdd, Int.reduceSub, Int.reduceMul, Int.reduceNeg, Int.reduceToNat, List.reduceReplicate, g0, g1, g5]
        (repeat' apply And.intro) <;> (try first | rfl | assumption | omega)
        rw [foldl_take_max _ _ _ hlt, Int.max_eq_right (by omega)]
      · simp (disch := omega) only [go_sem, Nat.reduceEqDiff, Nat.reduceAdd, Nat.reduceMul, Nat.reduceSub, Nat.reduceLeDiff, ↓reduceIte, reduceCtorEq, Int.reduceAdd, Int.reduceSub, Int.reduceMul, Int.reduceNeg, Int.reduceToNat, List.reduceReplicate, g0, g1, g5, hx, hg]
        refine ⟨k + 1, _, GhostS.refl _, (hI _ _ _).2 ?_, by omega⟩
        simp (disch := omega) only [go_sem, Nat.reduceEqDiff, Nat.reduceAdd, Nat.reduceMul, Nat.reduceSub, Nat.reduceLeDiff, ↓reduceIte, reduceCtorEq, Int.reduceAdd, Int.reduceSub, Int.reduceMul, Int.reduceNeg, Int.reduceToNat, List.reduceReplicate, g0, g1, g5]
        (repeat' apply And.intro) <;> (try first | rfl | assumption | omega)
        rw [foldl_take_max _ _ _ hlt, Int.max_eq_left (by omega)]
    · simp (disch := omega) only [go_sem, Nat.reduceEqDiff, Nat.reduceAdd, Nat.reduceMul, Nat.reduceSub, Nat.reduceLeDiff, ↓reduceIte, reduceCtorEq, Int.reduceAdd, Int.reduceSub, Int.reduceMul, Int.reduceNeg, Int.reduceToNat, List.reduceReplicate, g0, g1, g5]
      have : k = l.length := by omega
      subst this
      rw [List.take_length]
      exact DFin.refl ⟨rfl, rfl⟩
theorem appendO_own {H : DHeap} {e : TypeId} {size bytes n m r : Nat} {cs news : List DVal} {dst : Option Nat} {K : DK} {env : Nat → DVal} (hr : H r = none) (hl : cs.length = n * size) (hm : news.length = m * size) (hb : (n + m) * bytes ≤ 35184372088832)
    (hK : ∀ v' H', OwnA H e size (n + m) (cs ++ news) v' H' → K ⟨updO env dst v', H'⟩) : dAppendO e size bytes r 0 n n m news dst K ⟨env, upd H r (some (.cells cs e))⟩ (some (.cells cs e)) := by
  have := OwnA.append (H := H) (H0 := upd H r (some (.cells cs e))) (v := .oslice size r 0 n n) (.inr ⟨r, hr, hl, rfl, rfl⟩) hm hb hK
  simp only [dAppendTo, upd_same, true_and] at this
  exact this
theorem active_spec (G : Nat → DVal) (b : Int) (l : List Int) (H : DHeap) (hl : l.length ≤ 100000000000) : DCalls Try.prog G 59 [dI b, dIs l] H (DRet (dI (activeL b l)) H) := by
  refine dcalls_intro Try.func59 Try.call59 rfl (by kernel_rfl) ?_
  simp (disch := omega) only [go_sem, Nat.reduceEqDiff, Nat.reduceAdd, Nat.reduceMul, Nat.reduceSub, Nat.reduceLeDiff, ↓reduceIte, reduceCtorEq, Int.reduceAdd, Int.reduceSub, Int.reduceMul, Int.reduceNeg, Int.reduceToNat, List.reduceReplicate]
  intro r hr; dsimp only at hr
  simp (disch := omega) only [go_sem, Nat.reduceEqDiff, Nat.reduceAdd, Nat.reduceMul, Nat.reduceSub, Nat.reduceLeDiff, ↓reduceIte, reduceCtorEq, Int.reduceAdd, Int.reduceSub, Int.reduceMul, Int.reduceNeg, Int.reduceToNat, List.reduceReplicate]
  refine appendO_own hr rfl (by simp) (by omega) fun v' H' hv => ?_
  simp (disch := omega) only [go_sem, Nat.reduceEqDiff, Nat.reduceAdd, Nat.reduceMul, Nat.reduceSub, Nat.reduceLeDiff, ↓reduceIte, reduceCtorEq, Int.reduceAdd, Int.reduceSub, Int.reduceMul, Int.reduceNeg, Int.reduceToNat, List.reduceReplicate]
  refine DCalls.pre (hv.ghostT (ds := []) (fun _ _ => rfl)) ?_
  have h := max_spec G b l H (by omega)
  rw [show 1 + l.length = l.length + 1 by omega]
  refine h.mono ?_
  rintro _ H1 ⟨rfl, rfl⟩
  simp (disch := omega) only [go_sem, Nat.reduceEqDiff, Nat.reduceAdd, Nat.reduceMul, Nat.reduceSub, Nat.reduceLeDiff, ↓reduceIte, reduceCtorEq, Int.reduceAdd, Int.reduceSub, Int.reduceMul, Int.reduceNeg, Int.reduceToNat, List.reduceReplicate]
  exact DFin.refl ⟨rfl, rfl⟩

theorem some_spec (G : Nat → DVal) (H : DHeap) : DCalls Try.prog G 72 [] H (DRet (dPS ⟨true, 1, [[3, 5], [4]]⟩) H) := by
  refine dcalls_intro Try.func72 Try.call72 rfl (by kernel_rfl) ?_
  simp (disch := omega) only [go_sem, Nat.reduceEqDiff, Nat.reduceAdd, Nat.reduceMul, Nat.reduceSub, Nat.reduceLeDiff, ↓reduceIte, reduceCtorEq, Int.reduceAdd, Int.reduceSub, Int.reduceMul, Int.reduceNeg, Int.reduceToNat, List.reduceReplicate]
  intro r hr; dsimp only at hr
  simp (disch := omega) only [go_sem, Nat.reduceEqDiff, Nat.reduceAdd, Nat.reduceMul, Nat.reduceSub, Nat.reduceLeDiff, ↓reduceIte, reduceCtorEq, Int.reduceAdd, Int.reduceSub, Int.reduceMul, Int.reduceNeg, Int.reduceToNat, List.reduceReplicate]
  intro r1 h1; dsimp only at h1
  simp (disch := omega) only [go_sem, Nat.reduceEqDiff, Nat.reduceAdd, Nat.reduceMul, Nat.reduceSub, Nat.reduceLeDiff, ↓reduceIte, reduceCtorEq, Int.reduceAdd, Int.reduceSub, Int.reduceMul, Int.reduceNeg, Int.reduceToNat, List.reduceReplicate]
  intro r2 h2; dsimp only at h2
  simp (disch := omega) only [go_sem, Nat.reduceEqDiff, Nat.reduceAdd, Nat.reduceMul, Nat.reduceSub, Nat.reduceLeDiff, ↓reduceIte, reduceCtorEq, Int.reduceAdd, Int.reduceSub, Int.reduceMul, Int.reduceNeg, Int.reduceToNat, List.reduceReplicate]
  intro r3 h3; dsimp only at h3
  simp only [upd_eq_none] at h1 h2 h3
  simp (disch := omega) only [go_sem, Nat.reduceEqDiff, Nat.reduceAdd, Nat.reduceMul, Nat.reduceSub, Nat.reduceLeDiff, ↓reduceIte, reduceCtorEq, Int.reduceAdd, Int.reduceSub, Int.reduceMul, Int.reduceNeg, Int.reduceToNat, List.reduceReplicate, h1, h2, h3]
  refine DFin.sub (H' := upd (upd (upd H r1 (some (.cells [dI 3, dI 5] 3))) r2 (some (.cells [dI 4] 3))) r3 (some (.cells [.oslice 1 r1 0 2 2, .oslice 1 r2 0 1 1] 37))) (fun b o hb => ?_) ?_
  · have : b ≠ r := fun e => by subst e; simp [upd, h1, h2, h3, hr] at hb
    simp only [upd] at hb ⊢
    simpa [this] using hb
  refine DFin.fzA r3 (by simp [upd, h1, h2, h3]) ?_
  simp (disch := omega) only [go_sem, Nat.reduceEqDiff, Nat.reduceAdd, Nat.reduceMul, Nat.reduceSub, Nat.reduceLeDiff, ↓reduceIte, reduceCtorEq, Int.reduceAdd, Int.reduceSub, Int.reduceMul, Int.reduceNeg, Int.reduceToNat, List.reduceReplicate, h1, h2, h3]
  refine DFin.fzA r2 (by simp [upd, h1, h2, h3]) ?_
  simp (disch := omega) only [go_sem, Nat.reduceEqDiff, Nat.reduceAdd, Nat.reduceMul, Nat.reduceSub, Nat.reduceLeDiff, ↓reduceIte, reduceCtorEq, Int.reduceAdd, Int.reduceSub, Int.reduceMul, Int.reduceNeg, Int.reduceToNat, List.reduceReplicate, h1, h2, h3]
  refine DFin.fzA r1 h1.2.2 ?_
  simp (disch := omega) only [go_sem, Nat.reduceEqDiff, Nat.reduceAdd, Nat.reduceMul, Nat.reduceSub, Nat.reduceLeDiff, ↓reduceIte, reduceCtorEq, Int.reduceAdd, Int.reduceSub, Int.reduceMul, Int.reduceNeg, Int.reduceToNat, List.reduceReplicate, h1, h2, h3]
  exact DFin.refl ⟨rfl, rfl⟩
end Go.Dl
