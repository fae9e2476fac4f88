/-
  THE DATA LEVEL, PART 9: slices that are built up; plain lists seen as slices.
-/
import Derived.Test.YtimnmempnhjbfaaD8
set_option linter.unusedSimpArgs false
set_option linter.unusedVariables false
namespace Go.Dl
open Go Go.RowKit

/-- The call returns v; nothing else turns. -/
abbrev DRet (v : DVal) (H : DHeap) : DEnd → DHeap → Prop := fun e H' => e = .ret v ∧ H' = H

/-- v is nil (and then there are no cells), or a slice over a whole block of the call's own, of n elements, whose cells are cs; H' is H with that block. -/
def OwnA (H : DHeap) (e : TypeId) (size n : Nat) (cs : List DVal) (v : DVal) (H' : DHeap) : Prop :=
  (n = 0 ∧ cs = [] ∧ v = .nilSlice ∧ H' = H) ∨ ∃ r, H r = none ∧ cs.length = n * size ∧ v = .oslice size r 0 n n ∧ H' = upd H r (some (.cells cs e))

section
variable {P : Program} {G : Nat → DVal} {Q : DExit → DS → Prop}

theorem OwnA.nil (H : DHeap) (e : TypeId) (size : Nat) : OwnA H e size 0 [] .nilSlice H := .inl ⟨rfl, rfl, rfl, rfl⟩

theorem upd_self {α : Type} {f : Nat → α} {r : Nat} {x : α} (h : f r = x) : upd f r x = f := by
  funext i; simp only [upd]; split
  · rename_i e; rw [e, h]
  · rfl

theorem dAppendO_in {e : TypeId} {size bytes r off len lo n : Nat} {news : List DVal} {dst : Option Nat} {K : DK} {s : DS} {cs : List DVal} (h : len + n ≤ lo) :
    dAppendO e size bytes r off len lo n news dst K s (some (.cells cs e)) = (off + (len + n) * size ≤ cs.length ∧
        K ⟨updO s.env dst (.oslice size r off (len + n) lo), upd s.heap r (some (.cells (splice cs (off + len * size) news) e))⟩) := by
  simp only [dAppendO, true_and, eq_iff_iff]
  exact ⟨fun k => k.1 h, fun k => ⟨fun _ => k, fun hn => (hn h).elim⟩⟩

theorem dAppendO_out {e : TypeId} {size bytes r len lo n : Nat} {news : List DVal} {dst : Option Nat} {K : DK} {s : DS} {cs : List DVal} (h : lo < len + n) :
    dAppendO e size bytes r 0 len lo n news dst K s (some (.cells cs e)) = (len * size ≤ cs.length ∧ (len + n) * bytes ≤ 35184372088832 ∧ ∀ r', upd s.heap r none r' = none →
        K ⟨updO s.env dst (.oslice size r' 0 (len + n) (len + n)), upd (upd s.heap r none) r' (some (.cells (cs.take (len * size) ++ news) e))⟩) := by
  simp only [dAppendO, true_and, eq_iff_iff]
  have hn : ¬ len + n ≤ lo := by omega
  refine ⟨fun k => ?_, fun k => ⟨fun hh => (hn hh).elim, fun _ => ?_⟩⟩
  · obtain ⟨k1, k2, k3⟩ := k.2 hn
    refine ⟨by omega, k2, fun r' hr => ?_⟩
    have := k3 r' [] hr (fun _ => rfl)
    simpa using this
  · obtain ⟨k1, k2, k3⟩ := k
    refine ⟨by omega, k2, fun r' pre hr hp => ?_⟩
    have hpre := hp trivial
    subst hpre
    have := k3 r' hr
    simpa using this

/-- **append** to a slice that is being built up. -/
theorem OwnA.append {H H0 : DHeap} {e : TypeId} {size bytes n m : Nat} {cs news : List DVal} {v : DVal} {dst : Option Nat} {K : DK} {env : Nat → DVal} (hv : OwnA H e size n cs v H0) (hm : news.length = m * size) (hb : (n + m) * bytes ≤ 35184372088832)
    (hK : ∀ v' H', OwnA H e size (n + m) (cs ++ news) v' H' → K ⟨updO env dst v', H'⟩) : dAppendTo e size bytes m news dst v K ⟨env, H0⟩ := by
  rcases hv with ⟨rfl, rfl, rfl, rfl⟩ | ⟨r, hr, hl, rfl, rfl⟩
  · simp only [dAppendTo]
    refine ⟨fun h0 => ?_, fun h0 => ⟨by simpa using hb, fun r hr => ?_⟩⟩
    · subst h0
      have : news = [] := List.length_eq_zero_iff.1 (by omega)
      subst this
      exact hK _ _ (.inl ⟨rfl, rfl, rfl, rfl⟩)
    · refine hK _ _ (.inr ⟨r, hr, by simpa using hm, by simp, by simp⟩)
  · simp only [dAppendTo, true_and]
    rw [upd_same]
    by_cases h0 : m = 0
    · subst h0
      have : news = [] := List.length_eq_zero_iff.1 (by omega)
      subst this
      rw [dAppendO_in (by omega)]
      refine ⟨by simp [hl], ?_⟩
      have := hK (.oslice size r 0 (n + 0) n) (upd H r (some (.cells cs e))) (.inr ⟨r, hr, by simpa using hl, by simp, by simp⟩)
      simp only [splice, List.length_nil, List.append_nil, Nat.add_zero, List.take_append_drop, upd_upd]
      simpa using this
    · rw [dAppendO_out (by omega)]
      refine ⟨by omega, hb, fun r' hr' => ?_⟩
      have hu : upd (upd H r (some (.cells cs e))) r none = H := upd_none_self hr _
      simp only [hu] at hr' ⊢
      refine hK _ _ (.inr ⟨r', hr', ?_, rfl, ?_⟩)
      · simp [hl, hm, Nat.add_mul]
      · rw [List.take_of_length_le (by omega)]

theorem GhostE.slice {H : DHeap} {e : TypeId} {size n lo : Nat} {cs rest : List DVal} {r : Nat} (hr : H r = none) (hl : cs.length = n * size) : GhostE (upd H r (some (.cells (cs ++ rest) e))) (.oslice size r 0 n lo) H (.vslice cs n) := by
  have := GhostE.fz (v := .oslice size r 0 n lo) (upd_same H r (some (.cells (cs ++ rest) e)))
  rw [upd_none_self hr] at this
  simp only [Dl.fz, if_pos, List.drop_zero] at this
  rw [ List.take_append_of_le_length (by omega), List.take_of_length_le (by omega)] at this
  exact this

/-- The same, with spare room behind. -/
def OwnB (H : DHeap) (e : TypeId) (size n : Nat) (cs : List DVal) (v : DVal) (H' : DHeap) : Prop :=
  (n = 0 ∧ cs = [] ∧ v = .nilSlice ∧ H' = H) ∨ ∃ r lo rest, H r = none ∧ cs.length = n * size ∧ v = .oslice size r 0 n lo ∧ H' = upd H r (some (.cells (cs ++ rest) e))
theorem OwnA.b {H H0 : DHeap} {e : TypeId} {size n : Nat} {cs : List DVal} {v : DVal} (hv : OwnA H e size n cs v H0) : OwnB H e size n cs v H0 := by
  rcases hv with h | ⟨r, hr, hl, h1, h2⟩
  · exact .inl h
  · exact .inr ⟨r, n, [], hr, hl, h1, by simpa using h2⟩
theorem OwnB.ghost {H H0 : DHeap} {e : TypeId} {size n : Nat} {cs : List DVal} {v : DVal} (hv : OwnB H e size n cs v H0) : GhostE H0 v H (.vslice cs n) := by
  rcases hv with ⟨rfl, rfl, rfl, rfl⟩ | ⟨r, lo, rest, hr, hl, rfl, rfl⟩
  · intro w hw
    refine ⟨hw, fun _ h => h, fun x hx => ?_⟩
    simp only [Rel] at hx ⊢
    exact ⟨none, 0, hx, Nat.le_refl _, .inl (by simp)⟩
  · exact .slice hr hl
theorem DCalls.frozenB {f : FuncId} {args : List DVal} {H : DHeap} {e : TypeId} {size n : Nat} {cs : List DVal} (h : DCalls P G f args H fun x H' => ∃ v, x = .ret v ∧ OwnB H e size n cs v H') : DCalls P G f args H (DRet (.vslice cs n) H) :=
  h.ghost fun x H' ⟨v, h1, h2⟩ => ⟨v, _, H, h1, h2.ghost, rfl, rfl⟩

/-- Seen as memory that lasts. -/
theorem OwnA.ghost {H H0 : DHeap} {e : TypeId} {size n : Nat} {cs : List DVal} {v : DVal} (hv : OwnA H e size n cs v H0) : GhostE H0 v H (.vslice cs n) := by
  rcases hv with ⟨rfl, rfl, rfl, rfl⟩ | ⟨r, hr, hl, rfl, rfl⟩
  · intro w hw
    refine ⟨hw, fun _ h => h, fun x hx => ?_⟩
    simp only [Rel] at hx ⊢
    exact ⟨none, 0, hx, Nat.le_refl _, .inl (by simp)⟩
  · have := GhostE.fz (v := .oslice size r 0 n n) (upd_same H r (some (.cells cs e)))
    rw [upd_none_self hr] at this
    simp only [fz, if_pos, List.drop_zero] at this
    rw [List.take_of_length_le (by omega)] at this
    exact this

theorem OwnA.fin {R : DEnd → DHeap → Prop} {H H0 : DHeap} {e : TypeId} {size n : Nat} {cs : List DVal} {v : DVal} (hv : OwnA H e size n cs v H0) (h : R (.ret (.vslice cs n)) H) : DFin R v H0 := .ghost hv.ghost (.refl h)

/-- A result that is the call's own, seen as memory that lasts. -/
theorem DCalls.frozen {f : FuncId} {args : List DVal} {H : DHeap} {e : TypeId} {size n : Nat} {cs : List DVal} (h : DCalls P G f args H fun x H' => ∃ v, x = .ret v ∧ OwnA H e size n cs v H') : DCalls P G f args H (DRet (.vslice cs n) H) :=
  h.ghost fun x H' ⟨v, h1, h2⟩ => ⟨v, _, H, h1, h2.ghost, rfl, rfl⟩

end

/-- Whatever d describes, d' describes. -/
def DLe (d d' : DVal) : Prop := ∀ (w : World) (H : DHeap) (x : Value), Rel w H d x → Rel w H d' x
def DLes (ds ds' : List DVal) : Prop := ∀ (w : World) (H : DHeap) (x : List Value), RelL w H ds x → RelL w H ds' x
theorem DLe.refl (d : DVal) : DLe d d := fun _ _ _ h => h
theorem DLes.nil : DLes [] [] := fun _ _ _ h => h
theorem DLes.refl (ds : List DVal) : DLes ds ds := fun _ _ _ h => h
theorem DLes.cons {d d' : DVal} {ds ds' : List DVal} (h : DLe d d') (k : DLes ds ds') : DLes (d :: ds) (d' :: ds') := fun w H x hx => by
  simp only [RelL] at hx ⊢
  obtain ⟨y, ys, rfl, h1, h2⟩ := hx
  exact ⟨y, ys, rfl, h _ _ _ h1, k _ _ _ h2⟩
theorem DLe.nil : DLe .nilSlice (.vslice [] 0) := fun w H x hx => by
  simp only [Rel] at hx ⊢
  exact ⟨none, 0, hx, Nat.le_refl _, .inl (by simp)⟩
theorem DLe.vslice {cs cs' : List DVal} (n : Nat) (h : DLes cs cs') : DLe (.vslice cs n) (.vslice cs' n) := fun w H x hx => by
  simp only [Rel] at hx ⊢
  obtain ⟨a, cap, rfl, hle, h1⟩ := hx
  refine ⟨a, cap, rfl, hle, ?_⟩
  rcases h1 with rfl | ⟨b, o, xs, rfl, h1, h2⟩
  · have := h w H [] (by simp [RelL])
    cases cs' with
    | nil => exact .inl rfl
    | cons c cs' => simp [RelL] at this
  · exact .inr ⟨b, o, xs, rfl, h1, h _ _ _ h2⟩
theorem DLe.tuple {cs cs' : List DVal} (h : DLes cs cs') : DLe (.tuple cs) (.tuple cs') := fun w H x hx => by
  simp only [Rel] at hx ⊢
  obtain ⟨xs, rfl, h1⟩ := hx
  exact ⟨xs, rfl, h _ _ _ h1⟩
theorem DLe.agg {cs cs' : List DVal} (h : DLes cs cs') : DLe (.agg cs) (.agg cs') := fun w H x hx => by
  simp only [Rel] at hx ⊢
  obtain ⟨xs, rfl, h1⟩ := hx
  exact ⟨xs, rfl, h _ _ _ h1⟩
theorem DLes.nils (n : Nat) : DLes (List.replicate n .nilSlice) (List.replicate n (.vslice [] 0)) := by
  induction n with
  | zero => exact DLes.nil
  | succ n ih => simp only [List.replicate_succ]; exact .cons .nil ih
theorem DFin.le {R : DEnd → DHeap → Prop} {v v' : DVal} {H : DHeap} (g : DLe v v') (h : DFin R v' H) : DFin R v H := .ghost (fun w hw => ⟨hw, fun _ h => h, fun x hx => g _ _ _ hx⟩) h
theorem DCalls.le {P : Program} {G : Nat → DVal} {f : FuncId} {args : List DVal} {H : DHeap} {v v' : DVal} (g : DLe v v') (h : DCalls P G f args H (DRet v H)) : DCalls P G f args H (DRet v' H) :=
  h.ghost fun x H' ⟨h1, h2⟩ => ⟨v, v', H, h1, fun w hw => by rw [h2] at hw ⊢; exact ⟨hw, fun _ h => h, fun x hx => g _ _ _ hx⟩, rfl, rfl⟩

/-- Block r is seen as memory that lasts, in the slots and in block ro. -/
theorem GhostS.fz2 {G : Nat → DVal} {s : DS} {r ro : Nat} {cs cso : List DVal} {e eo : TypeId} (hr : s.heap r = some (.cells cs e)) (ho : s.heap ro = some (.cells cso eo)) (hne : ro ≠ r) :
    GhostS G s ⟨fun i => Dl.fz r cs (s.env i), upd (upd s.heap r none) ro (some (.cells (fzs r cs cso) eo))⟩ := by
  intro w hH hG
  have hl1 := lasts_letGo s.heap r w
  have hl2 : Lasts (upd s.heap r none) w (upd (upd s.heap r none) ro (some (.cells (fzs r cs cso) eo))) w := by
    refine ⟨fun b i x hb hc => ⟨?_, hc⟩, Nat.le_refl _, fun _ _ => rfl⟩
    by_cases e : b = ro
    · subst e; simp only [upd, if_neg hne] at hb; rw [ho] at hb; cases hb
    · simp only [upd, if_neg e] at hb ⊢; exact hb
  refine ⟨?_, ?_, (hG.lasts hl1).lasts hl2, fun i x hx => (fz_rel hH hr _ _ hx).lasts hl2⟩
  · intro b o hb
    by_cases e : b = ro
    · subst e
      simp only [upd, if_pos] at hb; cases hb
      obtain ⟨xs, c, fz', h1, h2, h3, h4⟩ := hH _ _ ho
      exact ⟨xs, c, fz', h1, h2, (fzs_rel hH hr _ _ h3).lasts hl2, h4⟩
    · simp only [upd, if_neg e] at hb
      split at hb
      · cases hb
      · exact ((hH b o hb).lasts hl1).lasts hl2
  · intro b hb
    by_cases e : b = ro
    · subst e; rw [ho]; simp
    · simp only [upd, if_neg e] at hb
      split at hb
      · exact absurd rfl hb
      · exact hb

/-- Another block beside it. -/
theorem OwnA.frame {H H' : DHeap} {e : TypeId} {size n : Nat} {cs : List DVal} {v : DVal} (h : OwnA H e size n cs v H') {r : Nat} (hr : H' r = none) (o : DObj) : OwnA (upd H r (some o)) e size n cs v (upd H' r (some o)) ∧ H r = none := by
  rcases h with ⟨a, b, c, rfl⟩ | ⟨r0, a, b, c, rfl⟩
  · exact ⟨.inl ⟨a, b, c, rfl⟩, hr⟩
  · rw [upd_eq_none] at hr
    exact ⟨.inr ⟨r0, by simp [upd, hr, a], b, c, upd_swap hr.1 _ _ _⟩, hr.2.2⟩
theorem OwnA.unframe {H H' : DHeap} {e : TypeId} {size n : Nat} {cs : List DVal} {v : DVal} {r : Nat} {o : DObj} (h : OwnA (upd H r (some o)) e size n cs v H') (hr : H r = none) : OwnA H e size n cs v (upd H' r none) := by
  rcases h with ⟨a, b, c, rfl⟩ | ⟨r0, a, b, c, rfl⟩
  · exact .inl ⟨a, b, c, upd_none_self hr _⟩
  · rw [upd_eq_none] at a
    refine .inr ⟨r0, a.2.2, b, c, ?_⟩
    rw [upd_swap a.2.1, upd_none_self hr]
theorem GhostS.drop {G : Nat → DVal} (s : DS) (r : Nat) : GhostS G s ⟨s.env, upd s.heap r none⟩ := fun w hH hG =>
  ⟨hH.letGo r, fun b hb => by simp only [upd] at hb; split at hb <;> simp_all, hG.lasts (lasts_letGo _ r w), fun i x hx => Rel.lasts (lasts_letGo _ r w) _ _ hx⟩
theorem OwnA.ghostT {H H0 : DHeap} {e : TypeId} {size n : Nat} {cs : List DVal} {v : DVal} (hv : OwnA H e size n cs v H0) {ds : List DVal} (hd : ∀ r cs, fzs r cs ds = ds) : GhostE H0 (.tuple (v :: ds)) H (.tuple (.vslice cs n :: ds)) := by
  rcases hv with ⟨rfl, rfl, rfl, rfl⟩ | ⟨r, hr, hl, rfl, rfl⟩
  · exact fun w hw => ⟨hw, fun _ h => h, fun x hx => DLe.tuple (.cons .nil (.refl _)) _ _ _ hx⟩
  · have := GhostE.fz (v := .tuple (.oslice size r 0 n n :: ds)) (upd_same H r (some (.cells cs e)))
    rw [upd_none_self hr] at this
    simp only [Dl.fz, fzs, if_pos, List.drop_zero, hd] at this
    rw [List.take_of_length_le (by omega)] at this
    exact this

theorem GhostS.trans {G : Nat → DVal} {s s' s'' : DS} (h : GhostS G s s') (k : GhostS G s' s'') : GhostS G s s'' := fun w hH hG => by
  obtain ⟨h1, h2, h3, h4⟩ := h w hH hG
  obtain ⟨k1, k2, k3, k4⟩ := k w h1 h3
  exact ⟨k1, fun b hb => h2 b (k2 b hb), k3, fun i x hx => k4 i x (h4 i x hx)⟩

/-- A slice that has got a slice of the call's own (block rx) by way of block rc: both are let go, the new element is seen as memory that lasts. -/
theorem OwnA.settle {G : Nat → DVal} {H H' : DHeap} {e ex : TypeId} {k n lo : Nat} {cs cx : List DVal} {v : DVal} {rx rc : Nat} {oc : DObj} (h : OwnA (upd (upd H rx (some (.cells cx ex))) rc (some oc)) e 1 (k + 1) (cs ++ [.oslice 1 rx 0 n lo]) v H')
    (hx : H rx = none) (hc : H rc = none) (hne : rc ≠ rx) (hcs : fzs rx cx cs = cs) (hn : cx.length = n) :
    ∃ H'', (∀ env, GhostS G ⟨env, H'⟩ ⟨fun i => Dl.fz rx cx (env i), H''⟩) ∧ OwnA H e 1 (k + 1) (cs ++ [.vslice cx n]) v H'' ∧ Dl.fz rx cx v = v := by
  rcases h with ⟨a, _⟩ | ⟨ro, a, b, rfl, rfl⟩
  · omega
  · rw [upd_eq_none] at a
    obtain ⟨a1, a2, a3⟩ := a
    rw [upd_eq_none] at a3
    obtain ⟨a4, a5, a6⟩ := a3
    have hfz : fzs rx cx (cs ++ [.oslice 1 rx 0 n lo]) = cs ++ [.vslice cx n] := by
      have happ : ∀ (l m : List DVal), fzs rx cx (l ++ m) = fzs rx cx l ++ fzs rx cx m := fun l m => by
        induction l with
        | nil => simp [fzs]
        | cons d l ih => simp [fzs, ih]
      rw [happ, hcs]
      simp only [fzs, Dl.fz, if_pos, List.drop_zero, Nat.mul_one]
      rw [List.take_of_length_le (by omega)]
    refine ⟨upd (upd (upd (upd (upd (upd H rx (some (.cells cx ex))) rc (some oc)) ro (some (.cells (cs ++ [.oslice 1 rx 0 n lo]) e))) rx none) ro (some (.cells (cs ++ [.vslice cx n]) e))) rc none, fun env => ?_, ?_, ?_⟩
    · refine GhostS.trans (GhostS.fz2 (r := rx) (ro := ro) (cs := cx) (cso := cs ++ [.oslice 1 rx 0 n lo]) (e := ex) (eo := e) (by simp [upd, a5, hne.symm]) (by simp [upd]) a4) ?_
      rw [hfz]
      exact GhostS.drop _ rc
    · refine .inr ⟨ro, a6, by simp at b ⊢; omega, rfl, ?_⟩
      funext i
      simp only [upd]
      by_cases e1 : i = rc
      · subst e1; simp [hc, a2]
      · by_cases e2 : i = ro
        · subst e2; simp [a1]
        · by_cases e3 : i = rx
          · subst e3; simp [e1, e2, hx]
          · simp [e1, e2, e3]
    · simp only [Dl.fz, if_neg a4]

theorem sub_none {H H' : DHeap} (h : ∀ r o, H' r = some o → H r = some o) {b : Nat} (hb : H b = none) : H' b = none := by
  cases e : H' b with
  | none => rfl
  | some o => rw [h b o e] at hb; cases hb
theorem lasts_sub {H H' : DHeap} (h : ∀ r o, H' r = some o → H r = some o) (w : World) : Lasts H w H' w :=
  ⟨fun b i x hb hc => ⟨sub_none h hb, hc⟩, Nat.le_refl _, fun _ _ => rfl⟩
theorem GhostE.sub {H H' : DHeap} (h : ∀ r o, H' r = some o → H r = some o) (v : DVal) : GhostE H v H' v := fun w hw =>
  ⟨fun r o ho => (hw r o (h r o ho)).lasts (lasts_sub h w), fun b hb e => hb (sub_none h e), fun x hx => Rel.lasts (lasts_sub h w) _ _ hx⟩
/-- Some blocks are let go. -/
theorem DFin.sub {R : DEnd → DHeap → Prop} {v : DVal} {H H' : DHeap} (h : ∀ r o, H' r = some o → H r = some o) (k : DFin R v H') : DFin R v H := .ghost (.sub h v) k
theorem GhostS.sub {G : Nat → DVal} {s : DS} {H' : DHeap} (h : ∀ r o, H' r = some o → s.heap r = some o) : GhostS G s ⟨s.env, H'⟩ := fun w hH hG =>
  ⟨fun r o ho => (hH r o (h r o ho)).lasts (lasts_sub h w), fun b hb e => hb (sub_none h e), hG.lasts (lasts_sub h w), fun i x hx => Rel.lasts (lasts_sub h w) _ _ hx⟩
theorem none_ne {α : Type} {H : Nat → Option α} {a b : Nat} {o : α} (ha : H a = none) (hb : H b = some o) : b ≠ a := fun e => by rw [e, ha] at hb; cases hb

theorem fzs_append (r : Nat) (cs : List DVal) (l m : List DVal) : fzs r cs (l ++ m) = fzs r cs l ++ fzs r cs m := by
  induction l with
  | nil => simp [fzs]
  | cons d l ih => simp [fzs, ih]
theorem DLes.append {a a' b b' : List DVal} (h : DLes a a') (k : DLes b b') : DLes (a ++ b) (a' ++ b') := fun w H x hx => by
  have hl := hx.length
  have e : x = x.take a.length ++ x.drop a.length := (List.take_append_drop _ _).symm
  have h1 := hx.take a.length
  have h2 := hx.drop a.length
  rw [List.take_left] at h1
  rw [List.drop_left] at h2
  rw [e]
  exact (h _ _ _ h1).append (k _ _ _ h2)
/-- Among arguments. -/
theorem OwnA.ghostA {H H0 : DHeap} {e : TypeId} {size n : Nat} {cs : List DVal} {v : DVal} (hv : OwnA H e size n cs v H0) {ds ds' : List DVal} (hd : ∀ r cs, fzs r cs ds = ds) (hd' : ∀ r cs, fzs r cs ds' = ds') : GhostE H0 (.tuple (ds ++ v :: ds')) H (.tuple (ds ++ .vslice cs n :: ds')) := by
  rcases hv with ⟨rfl, rfl, rfl, rfl⟩ | ⟨r, hr, hl, rfl, rfl⟩
  · exact fun w hw => ⟨hw, fun _ h => h, fun x hx => DLe.tuple (DLes.append (.refl _) (.cons .nil (.refl _))) _ _ _ hx⟩
  · have := GhostE.fz (v := .tuple (ds ++ .oslice size r 0 n n :: ds')) (upd_same H r (some (.cells cs e)))
    rw [upd_none_self hr] at this
    simp only [Dl.fz, fzs_append, fzs, if_pos, List.drop_zero, hd, hd'] at this
    rw [List.take_of_length_le (by omega)] at this
    exact this

theorem DCalls.leArgs {P : Program} {G : Nat → DVal} {f : FuncId} {args args' : List DVal} {H : DHeap} {R : DEnd → DHeap → Prop} (g : DLes args args') (h : DCalls P G f args' H R) : DCalls P G f args H R :=
  .pre (fun w hw => ⟨hw, fun _ h => h, fun x hx => DLe.tuple g _ _ _ hx⟩) h

theorem one_all {α : Type} (f : α → DVal) (h : ∀ x, (f x).one = true) (l : List α) : (l.map f).all (fun d => d.one) = true := by
  induction l with
  | nil => rfl
  | cons x l ih => simp [h, ih]
theorem ints_one (l : List Int) : (l.map dI).all (fun d => d.one) = true := one_all dI (fun _ => rfl) l
theorem intss_one (l : List (List Int)) : (l.map dIs).all (fun d => d.one) = true := one_all dIs (fun _ => rfl) l
theorem take_map_len {α : Type} (f : α → DVal) (l : List α) : (l.map f).take l.length = l.map f := by
  rw [List.take_of_length_le (by simp)]
theorem optAll_some {α : Type} (p : α → Bool) (x : α) : Option.all p (some x) = p x := rfl
attribute [go_sem] dAppendO_in dAppendO_out ints_one intss_one take_map_len optAll_some
end Go.Dl
