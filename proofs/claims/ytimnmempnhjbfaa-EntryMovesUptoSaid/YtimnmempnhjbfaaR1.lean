/-
  THE READING, PART 1: what was read of the input before a call is read the same behind it, if the call left all old memory as it was.
-/
import Derived.Test.YtimnmempnhjbfaaDx
import Derived.ChangeSame
set_option linter.unusedSimpArgs false
set_option linter.unusedVariables false
namespace Go.Dl
open Go

section
variable {H : Type} {enc : TypeId × Value → H} {P : Program} {w w' : World}

/-- All that was there is there. -/
def Stands (w w' : World) : Prop := ∀ b, b < w.heap.size → w'.heap[b]? = w.heap[b]?

theorem Stands.cell (h : Stands w w') {a : Addr} {x : Value} (hc : w.cell? a = some x) : w'.cell? a = some x := by
  have hlt : a.block < w.heap.size := by
    unfold World.cell? at hc
    rcases Nat.lt_or_ge a.block w.heap.size with hl | hl
    · exact hl
    · simp [Array.getElem?_eq_none hl] at hc
  unfold World.cell? at hc ⊢
  rw [h _ hlt]; exact hc

theorem mapM_some {α β : Type} {f g : α → Option β} : ∀ {l : List α} {r : List β}, l.mapM f = some r → (∀ x ∈ l, ∀ y, f x = some y → y ∈ r → g x = some y) → l.mapM g = some r
  | [], r, h, _ => by simpa using h
  | x :: l, r, h, hg => by
    rw [List.mapM_cons] at h ⊢
    simp only [Option.bind_eq_bind, Option.bind_eq_some_iff, Option.pure_def, Option.some.injEq] at h ⊢
    obtain ⟨y, hy, ys, hys, rfl⟩ := h
    exact ⟨y, hg x (by simp) y hy (by simp), ys, mapM_some hys (fun z hz u hu hm => hg z (by simp [hz]) u hu (by simp [hm])), rfl⟩

theorem Stands.cells (h : Stands w w') {base : Nat} {a : Addr} {n : Nat} {cs : List Value} (hc : w.cells? base a n = some cs) : w'.cells? base a n = some cs := by
  unfold World.cells? at hc ⊢
  split at hc
  · rename_i hb; rw [if_pos hb]; exact mapM_some hc fun i _ y hy _ => h.cell hy
  · cases hc

/-- The types that a reading meets: none is an interface; the elements of slices have cells. -/
structure Closed (P : Program) (T : TypeId → Prop) : Prop where
  ptr : ∀ t e, T t → P.underlying t = some (.pointer e) → T e
  slice : ∀ t e, T t → P.underlying t = some (.slice e) → 0 < P.cellsOf e ∧ T e
  struct : ∀ t fs, T t → P.underlying t = some (.struct fs) → ∀ f ∈ fs.toList, T f.type
  array : ∀ t n e, T t → P.underlying t = some (.array n e) → T e
  iface : ∀ t m, T t → P.underlying t ≠ some (.interface m)
  map : ∀ t k e, T t → P.underlying t = some (.map k e) → T e

def closedB (P : Program) (ts : List TypeId) : Bool := ts.all fun t => match P.underlying t with
  | some (.pointer e) => ts.contains e
  | some (.slice e) => decide (0 < P.cellsOf e) && ts.contains e
  | some (.struct fs) => fs.toList.all fun f => ts.contains f.type
  | some (.array _ e) => ts.contains e
  | some (.interface _) => false
  | some (.map _ e) => ts.contains e
  | _ => true

theorem closed_of {P : Program} {ts : List TypeId} (h : closedB P ts = true) : Closed P (· ∈ ts) := by
  unfold closedB at h
  rw [List.all_eq_true] at h
  refine ⟨fun t e ht hu => ?_, fun t e ht hu => ?_, fun t fs ht hu => ?_, fun t n e ht hu => ?_, fun t m ht hu => ?_, fun t k e ht hu => ?_⟩
  all_goals have h1 := h t ht; rw [hu] at h1
  · simpa using h1
  · simpa using h1
  · intro f hf; simpa using List.all_eq_true.1 h1 f hf
  · simpa using h1
  · cases h1
  · simpa using h1

theorem trod_keep (h : Stands w w') {T : TypeId → Prop} (hT : Closed P T) {base : Nat} {sp : Nat → Bool} {held : Bool} :
    ∀ (fuel : Nat) (t : TypeId) (cs : List Value) (d : DataW H) (ps : List MemPlace), T t → DataW.trod enc P w base (fun _ => true) held fuel t cs = some (d, ps) → (∀ p ∈ ps, sp p.block = true) →
      DataW.trod enc P w' base sp held fuel t cs = some (d, ps)
  | 0, _, _, _, _, _, hh, _ => by simp [DataW.trod] at hh
  | fuel + 1, t, cs, d, ps, ht, hh, hp => by
    have ih := @trod_keep h T hT base sp held fuel
    unfold DataW.trod at hh ⊢
    split at hh <;> (try (first | exact hh | (simp at hh; done)))
    · -- pointer
      rename_i e a hu
      simp only [Option.map_eq_some_iff, Option.bind_eq_some_iff, Prod.mk.injEq] at hh ⊢
      obtain ⟨x, ⟨c, hc, hx⟩, rfl, rfl⟩ := hh
      exact ⟨x, ⟨c, h.cells hc, ih _ _ x.1 x.2 (hT.ptr _ _ ht hu) hx fun p hpm => hp p (by simp [hpm])⟩, rfl, rfl⟩
    · -- slice
      rename_i e a len cap hu
      dsimp only at hh ⊢
      split at hh
      · rename_i hc
        rw [if_pos hc]
        simp only [Option.bind_eq_some_iff, Option.map_eq_some_iff, if_true, Prod.mk.injEq] at hh ⊢
        obtain ⟨elems, he, rest, hr, rfl, rfl⟩ := hh
        have hp1 : ∀ y ∈ elems, ∀ p ∈ y.2, sp p.block = true := fun y hy p hpm => hp p (by
          simp only [List.mem_append, List.mem_flatMap]
          exact .inr ⟨y, .inl hy, hpm⟩)
        have hp2 : ∀ y ∈ rest, ∀ p ∈ y.2, sp p.block = true := fun y hy p hpm => hp p (by
          simp only [List.mem_append, List.mem_flatMap]
          exact .inr ⟨y, .inr hy, hpm⟩)
        refine ⟨elems, mapM_some he (fun i _ y hy hym => ?_), rest, ?_, rfl, rfl⟩
        · simp only [Option.bind_eq_some_iff] at hy ⊢
          obtain ⟨c, hc1, hc2⟩ := hy
          exact ⟨c, h.cells hc1, ih _ _ y.1 y.2 (hT.slice _ _ ht hu).2 hc2 (hp1 y hym)⟩
        · have hr' : (List.range (cap - len)).mapM (fun j => (w'.cells? base (a.add ((len + j) * P.cellsOf e)) (P.cellsOf e)).bind (DataW.trod enc P w' base sp held fuel e)) = some rest := by
            refine mapM_some hr (fun i _ y hy hym => ?_)
            simp only [Option.bind_eq_some_iff] at hy ⊢
            obtain ⟨c, hc1, hc2⟩ := hy
            exact ⟨c, h.cells hc1, ih _ _ y.1 y.2 (hT.slice _ _ ht hu).2 hc2 (hp2 y hym)⟩
          by_cases hsp : sp a.block = true
          · rw [if_pos hsp]; exact hr'
          · rw [if_neg hsp]
            have hpos := (hT.slice t e ht hu).1
            have hlen : rest.length = 0 := by
              rcases Nat.eq_zero_or_pos rest.length with h0 | h0
              · exact h0
              · exfalso
                refine hsp (hp (.cell a.block a.off) ?_)
                refine List.mem_append_left _ ?_
                unfold MemPlace.row
                refine List.mem_map.2 ⟨0, List.mem_range.2 (Nat.mul_pos (by omega) hpos), by simp⟩
            rw [List.eq_nil_of_length_eq_zero hlen]
      · cases hh
    · -- struct
      rename_i fs hu
      split at hh
      · rename_i hl
        rw [if_pos hl]
        simp only [Option.map_eq_some_iff, Prod.mk.injEq] at hh ⊢
        obtain ⟨xs, hx, rfl, rfl⟩ := hh
        exact ⟨xs, mapM_some hx (fun f hf y hy hym => ih _ _ y.1 y.2 (hT.struct _ _ ht hu f hf) hy fun p hpm => hp p (List.mem_flatMap.2 ⟨y, hym, hpm⟩)), rfl, rfl⟩
      · cases hh
    · -- array
      rename_i hu
      split at hh
      · rename_i hl
        rw [if_pos hl]
        simp only [Option.map_eq_some_iff, Prod.mk.injEq] at hh ⊢
        obtain ⟨xs, hx, rfl, rfl⟩ := hh
        exact ⟨xs, mapM_some hx (fun f hf y hy hym => ih _ _ y.1 y.2 (hT.array _ _ _ ht hu) hy fun p hpm => hp p (List.mem_flatMap.2 ⟨y, hym, hpm⟩)), rfl, rfl⟩
      · cases hh
    · -- interface
      rename_i hu
      exact (hT.iface _ _ ht hu).elim
    · -- map
      rename_i k e b hu
      split at hh
      · rename_i es clock hb
        have hlt : b < w.heap.size := (Array.getElem?_eq_some_iff.1 hb).1
        rw [h b hlt, hb]
        dsimp only at hh ⊢
        split at hh
        · rename_i hc
          rw [if_pos hc]
          simp only [Option.bind_eq_some_iff] at hh ⊢
          obtain ⟨entries, he, hr⟩ := hh
          split at hr
          · rename_i hri
            simp only [Option.some.injEq, Prod.mk.injEq] at hr
            obtain ⟨rfl, rfl⟩ := hr
            refine ⟨entries, mapM_some he (fun x _ y hy hym => ?_), by rw [if_pos hri]⟩
            simp only [Option.bind_eq_some_iff] at hy ⊢
            obtain ⟨key, hk, hy⟩ := hy
            refine ⟨key, hk, ?_⟩
            split at hy
            · rename_i hf
              rw [if_pos hf]
              simp only [Option.map_eq_some_iff] at hy ⊢
              obtain ⟨z, hz1, rfl⟩ := hy
              exact ⟨z, ih _ _ z.1 z.2 (hT.map _ _ _ ht hu) hz1 fun p hpm => hp p (by
                simp only [List.mem_cons, List.mem_flatMap]
                exact .inr ⟨_, hym, hpm⟩), rfl⟩
            · cases hy
          · cases hr
        · cases hh
      · cases hh

theorem Trod.keep (h : Stands w w') {T : TypeId → Prop} (hT : Closed P T) {base : Nat} {sp : Nat → Bool} {held : Bool} {t : TypeId} {v : Value} {d : DataW H} {ps : List MemPlace}
    (ht : T t) (hh : DataW.Trod enc P w base (fun _ => true) held t v d ps) (hp : ∀ p ∈ ps, sp p.block = true) : DataW.Trod enc P w' base sp held t v d ps := by
  obtain ⟨fuel, hh⟩ := hh
  exact ⟨fuel, trod_keep h hT fuel _ _ _ _ ht hh hp⟩

theorem TrodAll.keep (h : Stands w w') {T : TypeId → Prop} (hT : Closed P T) {base : Nat} {sp : Nat → Bool} {held : Bool} :
    ∀ {ts : List TypeId} {vs : List Value} {ds : List (DataW H)} {ps : List MemPlace}, (∀ t ∈ ts, T t) → DataW.TrodAll enc P w base (fun _ => true) held ts vs ds ps → (∀ p ∈ ps, sp p.block = true) → DataW.TrodAll enc P w' base sp held ts vs ds ps
  | [], [], [], _, _, hh, _ => hh
  | [], [], _ :: _, _, _, hh, _ => hh.elim
  | [], _ :: _, _, _, _, hh, _ => hh.elim
  | _ :: _, [], _, _, _, hh, _ => hh.elim
  | _ :: _, _ :: _, [], _, _, hh, _ => hh.elim
  | t :: ts, v :: vs, d :: ds, _, ht, ⟨p, q, h1, h2, rfl⟩, hp =>
    ⟨p, q, Trod.keep h hT (ht t (by simp)) h1 (fun x hx => hp x (by simp [hx])), TrodAll.keep h hT (fun u hu => ht u (by simp [hu])) h2 (fun x hx => hp x (by simp [hx])), rfl⟩

end
end Go.Dl
