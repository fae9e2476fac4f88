/- Own rows are looked at: Same is lent a [][]int of the call's own. -/
import Derived.Test.YtimnmempnhjbfaaEj
import Derived.Test.YtimnmempnhjbfaaE8
set_option linter.unusedSimpArgs false
set_option linter.unusedVariables false
namespace Go.Dl
open Go Go.Proofs
set_option maxRecDepth 10000

theorem OwnV.sub {e : TypeId} {H H1 : DHeap} {l : List Int} {v : DVal} (h : OwnV e H l v H1) : ∀ r o, H r = some o → H1 r = some o := fun _ _ hr => h.keep hr
theorem OwnRows.sub {e : TypeId} {H : DHeap} : ∀ {q : List (List Int)} {vs : List DVal} {H1 : DHeap}, OwnRows e H q vs H1 → ∀ r o, H r = some o → H1 r = some o
  | [], _, _, h, r, o, hr => by rw [h.2]; exact hr
  | l :: q, vs, H1, h, r, o, hr => by
    obtain ⟨v, vs', H2, rfl, h1, h2⟩ := h
    exact h2.sub r o (h1.sub r o hr)
theorem OwnLL.sub {e e' : TypeId} {H H1 : DHeap} {q : List (List Int)} {v : DVal} (h : OwnLL e e' H q v H1) : ∀ r o, H r = some o → H1 r = some o := by
  rcases h with ⟨rfl, rfl, rfl⟩ | ⟨ro, vs, H2, h1, h2, rfl, rfl⟩
  · exact fun _ _ h => h
  · intro r o hr
    have := h1.sub r o hr
    have hne : r ≠ ro := fun e => by rw [e, h2] at this; cases this
    simp [upd, hne, this]

theorem lasts_h0 (H : DHeap) (w : World) : Lasts H w h0 w := lasts_sub (fun r o h => by cases h) w

theorem OwnRows.view {e : TypeId} {H : DHeap} {w : World} : ∀ {q : List (List Int)} {vs : List DVal} {H1 : DHeap}, OwnRows e H q vs H1 → SimHeap w H1 → ∀ xs, RelL w H1 vs xs → RelL w h0 (q.map dIs) xs
  | [], _, _, h, _, xs, hx => by
    obtain ⟨rfl, rfl⟩ := h
    simpa [RelL] using hx
  | l :: q, vs, H1, h, hw, xs, hx => by
    obtain ⟨v, vs', H2, rfl, h1, h2⟩ := h
    simp only [RelL, List.map_cons] at hx ⊢
    obtain ⟨y, ys, rfl, k1, k2⟩ := hx
    obtain ⟨g1, g2, g3⟩ := h2.ghost w hw
    exact ⟨y, ys, rfl, Rel.lasts (lasts_h0 _ w) _ _ (g3 y k1), h1.view g1 ys (RelL.lasts (lasts_sub h2.sub w) _ _ k2)⟩

/-- Own rows seen as memory that lasts. -/
theorem OwnLL.view {e e' : TypeId} {H H1 : DHeap} {q : List (List Int)} {v : DVal} (h : OwnLL e e' H q v H1) {w : World} (hw : SimHeap w H1) (x : Value) (hx : Rel w H1 v x) : Rel w h0 (dIss q) x := by
  rcases h with ⟨rfl, rfl, rfl⟩ | ⟨ro, vs, H2, h1, h2, rfl, rfl⟩
  · exact Rel.lasts (lasts_h0 _ w) _ _ (DLe.nil _ _ _ hx)
  · have g := GhostE.fz (v := .oslice 1 ro 0 q.length q.length) (upd_same H2 ro (some (.cells vs e')))
    rw [upd_none_self h2] at g
    simp only [Dl.fz, if_pos, List.drop_zero, Nat.mul_one] at g
    rw [← h1.len, List.take_length] at g
    obtain ⟨g1, _, g3⟩ := g w hw
    have hy := g3 x (by rw [h1.len]; exact hx)
    simp only [Rel, dIss] at hy ⊢
    obtain ⟨a, cap, rfl, hle, k⟩ := hy
    refine ⟨a, cap, by rw [h1.len], by rw [← h1.len]; exact hle, ?_⟩
    rcases k with rfl | ⟨b, o, ys, rfl, k1, k2⟩
    · refine .inl ?_
      have := h1.len
      cases q with
      | nil => rfl
      | cons l q => simp at this
    · exact .inr ⟨b, o, ys, rfl, k1.lasts (lasts_h0 _ w), h1.view g1 ys k2⟩

/-- v, in H1, is seen as q. -/
def Views (H1 : DHeap) (v : DVal) (q : List (List Int)) : Prop := ∀ w x, SimHeap w H1 → Rel w H1 v x → Rel w h0 (dIss q) x
theorem OwnLL.views {e e' : TypeId} {H H1 : DHeap} {q : List (List Int)} {v : DVal} (h : OwnLL e e' H q v H1) : Views H1 v q := fun _ x hw hx => h.view hw x hx
theorem Views.up {H1 H2 : DHeap} {v : DVal} {q : List (List Int)} (h : Views H1 v q) (hs : ∀ r o, H1 r = some o → H2 r = some o) : Views H2 v q := fun w x hw hx =>
  h w x (fun r o ho => (hw r o (hs r o ho)).lasts (lasts_sub hs w)) (Rel.lasts (lasts_sub hs w) _ _ hx)
theorem Views.frozen (H1 : DHeap) (q : List (List Int)) : Views H1 (dIss q) q := fun w _ _ hx => Rel.lasts (lasts_h0 _ w) _ _ hx

theorem same_own (G : Nat → DVal) (hG : ∀ g, ∃ r o, G g = .optr r o) (u v : DVal) (a b : List (List Int)) (H : DHeap) (hu : Views H u a) (hv : Views H v b) (ha : a.length ≤ 1099511627776) (hb : b.length ≤ 1099511627776) (hal : ∀ l ∈ a, l.length ≤ 1099511627776) (hbl : ∀ l ∈ b, l.length ≤ 1099511627776) :
    DCalls Try.prog G 17 [u, v] H (DRet (.bool (decide (a = b))) H) := by
  have h := DCalls.borrow (args := [u, v]) (H := H) (same_spec G a b h0 ha hb hal hbl) (fun w vs hw hx => ?_) (fun g => .inr (.inl (hG g))) (fun e H2 h => ⟨_, h.1, rfl⟩)
  · exact h.mono fun e H2 ⟨⟨H3, k1, k2⟩, k3⟩ => ⟨k1, k3⟩
  · simp only [RelL] at hx ⊢
    obtain ⟨y, ys, rfl, k1, z, zs, rfl, k2, k3⟩ := hx
    exact ⟨y, _, rfl, hu w y hw k1, z, zs, rfl, hv w z hw k2, k3⟩
end Go.Dl
