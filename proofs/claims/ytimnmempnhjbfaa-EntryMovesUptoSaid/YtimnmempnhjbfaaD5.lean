/-
  THE DATA LEVEL, PART 5: loops over iterators: a round, the statement.
-/
import Derived.Test.YtimnmempnhjbfaaD3
set_option linter.unusedSimpArgs false
set_option linter.unusedVariables false
namespace Go.Dl
open Go Go.RowKit

section
variable {P : Program} {G : Nat → DVal} {N : Nat} {w w' : World} {Q : DExit → DS → Prop}

theorem upd_idem {α : Type} (f : Nat → α) (l : Nat) (x y : α) : upd (upd f l x) l y = upd f l y := by
  funext i; simp only [upd]; split <;> rfl
theorem upd_none_self {α : Type} {f : Nat → Option α} {l : Nat} (h : f l = none) (x : Option α) : upd (upd f l x) l none = f := by
  funext i; simp only [upd]; split
  · rename_i e; subst e; exact h.symm
  · rfl

theorem dbind_rel {H : DHeap} : ∀ (ps : List Tmp) (ds : List DVal) (vs : List Value) (env : Nat → DVal) (tmps : Array Value), ds.length = ps.length → RelL w H ds vs → tmps.size = N → (∀ i, i < N → Rel w H (env i) (tmps.getD i undef)) →
    ((ps.zip vs).foldl (fun t (p, v) => t.setIfInBounds p v) tmps).size = N ∧ ∀ i, i < N → Rel w H (dbind env ps ds i) (((ps.zip vs).foldl (fun t (p, v) => t.setIfInBounds p v) tmps).getD i undef)
  | [], [], vs, env, tmps, _, hv, hs, he => by
    simp only [RelL] at hv; subst hv
    exact ⟨hs, he⟩
  | p :: ps, d :: ds, vs, env, tmps, hl, hv, hs, he => by
    simp only [RelL] at hv
    obtain ⟨y, ys, rfl, h1, h2⟩ := hv
    simp only [List.zip_cons_cons, List.foldl_cons, dbind]
    refine dbind_rel ps ds ys (upd env p d) (tmps.setIfInBounds p y) (by simpa using hl) h2 (by simpa using hs) fun i hi => ?_
    simp only [upd]
    by_cases e : i = p
    · subst e
      have : (tmps.setIfInBounds i y).getD i undef = y := by simp [Array.getD, hs, hi]
      rw [if_pos rfl, this]; exact h1
    · rw [if_neg e]
      have : (tmps.setIfInBounds p y).getD i undef = tmps.getD i undef := by
        rw [Array.getD_eq_getD_getElem?, Array.getD_eq_getD_getElem?, Array.getElem?_setIfInBounds_ne (Ne.symm e)]
      rw [this]; exact he i hi
  | [], _ :: _, _, _, _, hl, _, _, _ => by simp at hl
  | _ :: _, [], _, _, _, hl, _, _, _ => by simp at hl

theorem ext_book {H H' : DHeap} {l : Nat} {o o' : Obj} {ob : Option DObj} (hl : H l ≠ none) (hlt : l < w.heap.size) (hE : Ext (upd H l none) w H' w') (ho : w'.heap[l]? = some o) (h : isBook o = true) (h' : isBook o' = true) :
    Ext H w (upd H' l ob) (w'.putObj l o') := by
  refine ⟨hE.os, hE.tape, hE.output, by simpa [World.putObj] using hE.size, fun b hb hn => ?_, fun b hb => ?_, fun b hb => ?_, fun a => ?_⟩
  · have e : b ≠ l := fun e => hl (e ▸ hn)
    rw [World.putObj_heap_other e]
    exact hE.block b hb (by simp [upd, e, hn])
  · by_cases e : b = l
    · exact .inl (e ▸ hl)
    · simp only [upd, if_neg e] at hb
      rcases hE.own b hb with k | k
      · simp only [upd, if_neg e] at k; exact .inl k
      · exact .inr k
  · rw [csize_putObj ho h h' b]; exact hE.keep b hb
  · rw [putObj_fz ho h h' a]; exact hE.fz a

theorem lasts_book {H : DHeap} {l : Nat} {o : Obj} {ob : Option DObj} (ho : w.heap[l]? = some o) (h : isBook o = true) : Lasts H w (upd H l ob) w := by
  refine ⟨fun b i x hb hc => ⟨?_, hc⟩, Nat.le_refl _, fun _ _ => rfl⟩
  by_cases e : b = l
  · subst e; unfold World.cell? at hc; rw [ho] at hc; cases o <;> first | cases h; done | simp at hc
  · simp [upd, e, hb]

theorem simHeap_book {H : DHeap} {l : Nat} {o : Obj} {ob : DObj} (hH : SimHeap w H) (hn : H l = none) (ho : w.heap[l]? = some o) (h : isBook o = true) (hob : RelObj w (upd H l (some ob)) ob w.heap[l]?) : SimHeap w (upd H l (some ob)) := by
  intro r x hx
  by_cases e : r = l
  · subst e; simp only [upd, if_pos] at hx; cases hx; exact hob
  · simp only [upd, if_neg e] at hx
    exact (hH r x hx).lasts (lasts_book ho h)

/-- The way in which a round is left, as the iterator and the record see it. -/
def DRound (R : DEnd → DHeap → Prop) (l : Nat) (env : Nat → DVal) (N : Nat) (r : Loop) : DExit → DS → Prop
  | .normal, s => R (.ret (.bool true)) (upd s.heap l (some (.loop env N r)))
  | .ret, s => R (.ret (.bool false)) (upd s.heap l (some (.loop env N { r with state := .done, pending := some .ret })))
  | .exit id, s => R (.ret (.bool false)) (upd s.heap l (some (.loop env N { r with state := .done, pending := some (.exit id) })))
  | .goto t, s => R (.ret (.bool false)) (upd s.heap l (some (.loop env N { r with state := .done, pending := some (.goto t) })))
  | .panic _, _ => False

def DThen (K : DK) : DExit → DS → Prop
  | .normal, s => K s
  | _, _ => False

/-- **A ROUND**, out of its body. -/
theorem dyields_intro {l : Nat} {args : List DVal} {H : DHeap} {R : DEnd → DHeap → Prop} {env : Nat → DVal} {r : Loop} (hl : H l = some (.loop env N r)) (hst : r.state = .ready) (hpe : r.pending = none) (hps : args.length = r.params.size)
    (hok : (codeOk N r.assign && codeOk N r.body && flat r.assign && flat r.body) = true)
    (Qb : DExit → DS → Prop) (h : dwp P G N r.assign (DThen (dwp P G N r.body Qb)) ⟨dbind env r.params.toList args, upd H l none⟩) (hqb : ∀ e s, Qb e s → s.heap l = none → DRound R l env N r e s) : DYields P G l args H R := by
  intro F n hF vs w hv hH hG
  simp only [Bool.and_eq_true] at hok
  obtain ⟨⟨⟨ok1, ok2⟩, fl1⟩, fl2⟩ := hok
  obtain ⟨tmps, h1, h2, h3⟩ := hH l _ hl
  have hlt : l < w.heap.size := (Array.getElem?_eq_some_iff.1 h1).1
  have hvl := hv.length
  refine ⟨_, _, _, _, run_yield h1 (by simp; omega), roundIn_of_wpIn (hF.fn _) ?_⟩
  have hF' : FOk (F.inRound l) := by
    rcases hF with rfl | ⟨l0, rfl⟩
    · exact .inr ⟨l, rfl⟩
    · exact .inr ⟨l, rfl⟩
  have hlg : Lasts H w (upd H l none) w := lasts_book h1 rfl
  have hb := dbind_rel (w := w) (H := upd H l none) r.params.toList args vs env tmps (by simpa using hps) (hv.lasts hlg) h2 (fun i hi => (h3 i hi).lasts hlg)
  have hfold : (r.params.zip vs.toArray).foldl (fun t (p, v) => t.setIfInBounds p v) tmps = (r.params.toList.zip vs).foldl (fun t (p, v) => t.setIfInBounds p v) tmps := by
    rw [← Array.foldl_toList, Array.toList_zip]
  have hS : Sim G ⟨N, w.heap.size⟩ ⟨dbind env r.params.toList args, upd H l none⟩ { tmps := (r.params.zip vs.toArray).foldl (fun t (p, v) => t.setIfInBounds p v) tmps, defers := [] } w := by
    rw [hfold]
    exact ⟨hb.1, Dfs.nil _ _ _, hb.2, hH.letGo l, hG.lasts hlg, Nat.le_refl _⟩
  refine wpIn_mono (dwp_soundF hF' r.assign ok1 (.inr fl1) _ _ h _ w hS) ?_
  rintro e a1 w1 ⟨e', s1, hQ, hX, hS1, hE1⟩
  cases hX <;> first | exact hQ.elim | skip
  have hn1 : s1.heap l = none := by
    cases e : s1.heap l with
    | none => rfl
    | some o =>
      rcases hE1.own l (by simp [e]) with k | k
      · simp [upd] at k
      · omega
  have hl1 : w1.heap[l]? = some (.loop { r with tmps := tmps }) := by rw [hE1.block l hlt (by simp [upd])]; exact h1
  refine ⟨_, run_beginRound hl1 (by simpa using hst), ?_⟩
  obtain ⟨w2, hw2⟩ : ∃ w2, w1.putObj l (.loop { { r with tmps := tmps } with state := .busy }) = w2 := ⟨_, rfl⟩
  have hlt1 : l < w1.heap.size := (Array.getElem?_eq_some_iff.1 hl1).1
  have hl2 : w2.heap[l]? = some (.loop { { r with tmps := tmps } with state := .busy }) := by rw [← hw2]; exact World.putObj_heap_same hlt1
  have hLp := putObj_lasts (o' := .loop { { r with tmps := tmps } with state := .busy }) hl1 rfl rfl s1.heap
  rw [hw2] at hLp ⊢
  have hS2 : Sim G ⟨N, w.heap.size⟩ s1 a1 w2 := by
    refine ⟨hS1.size, ?_, fun i hi => (hS1.tmps i hi).lasts hLp, ?_, hS1.glob.lasts hLp, ?_⟩
    · obtain ⟨Ds, g1, g2, g3⟩ := hS1.defers
      refine ⟨Ds, g1, g2, fun D hD => ?_⟩
      obtain ⟨k1, k2, k3⟩ := g3 D hD
      have : D ≠ l := fun e => by rw [e, hl1] at k2; cases k2
      exact ⟨k1, by rw [← hw2, World.putObj_heap_other this]; exact k2, k3⟩
    · rw [← hw2]; exact putObj_sim hl1 rfl rfl hS1.heap hn1
    · rw [← hw2]; simpa [World.putObj] using hS1.base
  have hE2 : Ext H w (upd s1.heap l (some (.loop env N r))) w2 := by
    rw [← hw2]; exact ext_book (by simp [hl]) hlt hE1 hl1 rfl rfl
  refine wpIn_mono (dwp_soundF hF' r.body ok2 (.inr fl2) _ _ hQ _ w2 hS2) ?_
  rintro e a3 w3 ⟨e', s3, hQ3', hX3, hS3, hE3⟩
  have hlt2 : l < w2.heap.size := (Array.getElem?_eq_some_iff.1 hl2).1
  have hn3 : s3.heap l = none := by
    cases e : s3.heap l with
    | none => rfl
    | some o =>
      rcases hE3.own l (by simp [e]) with k | k
      · exact (k hn1).elim
      · omega
  have hQ3 := hqb _ _ hQ3' hn3
  have hl3 : w3.heap[l]? = some (.loop { { r with tmps := tmps } with state := .busy }) := by rw [hE3.block l hlt2 hn1]; exact hl2
  have hlt3 : l < w3.heap.size := (Array.getElem?_eq_some_iff.1 hl3).1
  have fin : ∀ (r' : Loop), (∃ st pe, r' = { r with state := st, pending := pe }) →
      SimHeap (w3.putObj l (.loop { r' with tmps := tmps })) (upd s3.heap l (some (.loop env N r'))) ∧ Ext H w (upd s3.heap l (some (.loop env N r'))) (w3.putObj l (.loop { r' with tmps := tmps })) := by
    rintro r' ⟨st, pe, rfl⟩
    have hE4 : Ext (upd s1.heap l (some (.loop env N r))) w2 (upd s3.heap l (some (.loop env N { r with state := st, pending := pe }))) (w3.putObj l (.loop { { r with state := st, pending := pe } with tmps := tmps })) :=
      ext_book (by simp [upd]) hlt2 (by rw [upd_none_self hn1]; exact hE3) hl3 rfl rfl
    have hE := hE2.trans hE4
    refine ⟨simHeap_book (putObj_sim hl3 rfl rfl hS3.heap hn3) hn3 (World.putObj_heap_same hlt3) rfl ?_, hE⟩
    rw [World.putObj_heap_same hlt3]
    exact ⟨tmps, rfl, h2, fun i hi => (h3 i hi).lasts hE.lasts⟩
  cases hX3 with
  | normal =>
    obtain ⟨g1, g2⟩ := fin r ⟨r.state, r.pending, rfl⟩
    refine ⟨_, _, run_endRound none hl3, .ret (.bool true), _, hQ3, .ret _ _ (by simp [Rel]), ?_⟩
    have : ({ ({ { r with tmps := tmps } with state := .busy } : Loop) with state := (if (none : Option Code).isNone then LoopState.ready else .done), pending := none } : Loop) = { r with tmps := tmps } := by
      cases r; simp at hst hpe; subst hst; subst hpe; rfl
    rw [this]
    exact ⟨g1, g2⟩
  | ret =>
    obtain ⟨g1, g2⟩ := fin _ ⟨.done, some .ret, rfl⟩
    exact ⟨_, _, run_endRound (some .ret) hl3, .ret (.bool false), _, hQ3, .ret _ _ (by simp [Rel]), g1, g2⟩
  | exit id =>
    obtain ⟨g1, g2⟩ := fin _ ⟨.done, some (.exit id), rfl⟩
    exact ⟨_, _, run_endRound (some (.exit id)) hl3, .ret (.bool false), _, hQ3, .ret _ _ (by simp [Rel]), g1, g2⟩
  | goto t =>
    obtain ⟨g1, g2⟩ := fin _ ⟨.done, some (.goto t), rfl⟩
    exact ⟨_, _, run_endRound (some (.goto t)) hl3, .ret (.bool false), _, hQ3, .ret _ _ (by simp [Rel]), g1, g2⟩
  | panic d v hv => exact hQ3.elim

/-- The jump that a round has left is made. -/
def DJump (Q : DExit → DS → Prop) : Code → DS → Prop
  | .ret, s => Q .ret s
  | .exit id, s => Q (.exit id) s
  | .goto t, s => Q (.goto t) s
  | _, _ => False
def DJumpO (Q : DExit → DS → Prop) : Option Code → DS → Prop
  | none, s => Q .normal s
  | some c, s => DJump Q c s

/-- A loop's record as it is laid. -/
def rec0 (fn : FuncId) (ps : Array Tmp) (asg body : Code) (D : Nat) : Loop := { state := .ready, pending := none, fn, tmps := #[], params := ps, assign := asg, body, defers := D }

theorem frozen_book {o : Obj} (h : isBook o = true) (a : Addr) : (w.alloc o).frozen? a = w.frozen? a := by
  unfold World.frozen?
  have hh : (w.alloc o).heap[a.block]? = if a.block = w.heap.size then some o else w.heap[a.block]? := by
    show (w.heap.push o)[a.block]? = _
    rw [Array.getElem?_push]
  rw [hh]
  by_cases e : a.block = w.heap.size
  · rw [if_pos e, e, Array.getElem?_eq_none (Nat.le_refl _)]
    cases o <;> first | cases h; done | rfl
  · rw [if_neg e]

/-- **THE STATEMENT 'for .. := range f { .. }'.** -/
theorem dwp0_rangeFunc {g : Operand} {ps : Array Tmp} {asg body : Code} {s : DS} {gf : FuncId} {captured : List DVal} (hgo : opdOk N g = true) (hg : dev G s.env g = .func (.func gf) [] captured)
    (h : ∀ l D fn, s.heap l = none → DCalls P G gf (.func (.yield l) [] [] :: captured) (upd s.heap l (some (.loop s.env N (rec0 fn ps asg body D)))) (fun e H' => ∃ v, e = .ret v ∧ ∃ st pe, st ≠ .busy ∧
      H' l = some (.loop s.env N { rec0 fn ps asg body D with state := st, pending := pe }) ∧ DJumpO Q pe ⟨s.env, upd H' l none⟩)) : DWp0 P G N (.rangeFunc g ps asg body) Q s := by
  intro n B a w hS
  refine wpIn_rangeFunc fun fn hfn => ?_
  have rg := rel_dev (N := ⟨N, B⟩) hS hgo
  rw [hg] at rg
  simp only [Rel, RelL] at rg
  obtain ⟨xs, lb, hfv, hxs, hlb⟩ := rg
  have hxs : xs = #[] := by cases xs; simp at hxs; subst hxs; rfl
  subst hxs
  obtain ⟨W1, hW1⟩ : ∃ W1, (w.alloc (.deferred (some []))).alloc (.loop { rec0 fn ps asg body w.heap.size with tmps := a.tmps }) = W1 := ⟨_, rfl⟩
  have hsz : W1.heap.size = w.heap.size + 2 := by rw [← hW1]; simp
  have hL1 : W1.heap[w.heap.size + 1]? = some (.loop { rec0 fn ps asg body w.heap.size with tmps := a.tmps }) := by
    rw [← hW1]; have := World.alloc_heap_new (w.alloc (.deferred (some []))) (.loop { rec0 fn ps asg body w.heap.size with tmps := a.tmps }); rwa [World.size_alloc] at this
  have hK1 : W1.heap[w.heap.size]? = some (.deferred (some [])) := by
    rw [← hW1]; exact (Below.heap_alloc _ _ _ (by simp)).trans (World.alloc_heap_new w _)
  have hbl : ∀ b, b < w.heap.size → W1.heap[b]? = w.heap[b]? := fun b hb => by
    rw [← hW1, Below.heap_alloc _ _ _ (by simp; omega), Below.heap_alloc _ _ _ hb]
  have hn0 : ∀ b, w.heap.size ≤ b → s.heap b = none := fun b hb => by
    cases e : s.heap b with
    | none => rfl
    | some o => exact absurd (hS.heap.lt (r := b) (by simp [e])) (by omega)
  obtain ⟨H1, hH1⟩ : ∃ H1, upd s.heap (w.heap.size + 1) (some (.loop s.env N (rec0 fn ps asg body w.heap.size))) = H1 := ⟨_, rfl⟩
  have hE1 : Ext s.heap w H1 W1 := by
    refine ⟨by rw [← hW1]; rfl, by rw [← hW1]; rfl, by rw [← hW1]; rfl, by omega, fun b hb _ => hbl b hb, fun b hb => ?_, fun b hb => by rw [hbl b hb], fun a => ?_⟩
    · rw [← hH1] at hb
      by_cases e : b = w.heap.size + 1
      · exact .inr (by omega)
      · simp only [upd, if_neg e] at hb; exact .inl hb
    · rw [← hW1, frozen_book rfl, frozen_book rfl]
  have hSH1 : SimHeap W1 H1 := by
    have h0 : SimHeap W1 s.heap := fun r o ho => by
      rw [hbl r (hS.heap.lt (by simp [ho]))]
      refine (hS.heap r o ho).lasts (H' := s.heap) ⟨fun b i x hb hc => ⟨hb, ?_⟩, by omega, fun b hb => by rw [hbl b hb]⟩
      unfold World.cell? at hc ⊢
      rw [hbl b (by exact cell_lt (b := b) (i := i) hc)]; exact hc
    rw [← hH1]
    refine simHeap_book h0 (hn0 _ (by omega)) hL1 rfl ?_
    rw [hL1, hH1]
    exact ⟨a.tmps, rfl, hS.size, fun i hi => (hS.tmps i hi).lasts hE1.lasts⟩
  have hc := h (w.heap.size + 1) w.heap.size fn (hn0 _ (by omega))
  rw [hH1] at hc
  refine ⟨w.heap.size + 1, [{ target := .collected w.heap.size, args := #[] }], W1, { target := .fn (.func gf) lb, args := #[.func (.yield (w.heap.size + 1)) #[] #[]] }, W1, gf,
    #[.func (.yield (w.heap.size + 1)) #[] #[]] ++ lb, W1, ?_, ?_, ?_, ?_, ?_, ?_⟩
  · rw [← hW1]; exact run_enterLoop_outer _ _ _ _ _
  · simp only [resolve, hfv]
    simp [go_sem]
  · intro f' hf'; trivial
  · simp only [invoke]; exact hc.1 _ _
  · intro hh; cases hh
  refine callsIn_wide.2 ?_
  have harr : (#[.func (.yield (w.heap.size + 1)) #[] #[]] ++ lb : Array Value) = (.func (.yield (w.heap.size + 1)) #[] #[] :: lb.toList).toArray := by apply Array.ext'; simp
  rw [harr]
  have hargs : RelL W1 H1 (.func (.yield (w.heap.size + 1)) [] [] :: captured) (.func (.yield (w.heap.size + 1)) #[] #[] :: lb.toList) := by
    simp only [RelL]
    exact ⟨_, _, rfl, by simp only [Rel, RelL]; exact ⟨#[], #[], rfl, rfl, rfl⟩, RelL.lasts hE1.lasts _ _ hlb⟩
  refine (hc.2 _ _ hargs hSH1 (hS.glob.lasts hE1.lasts)).mono ?_
  rintro e w2 ⟨e', H', ⟨v, rfl, st, pe, hst, hl', hq⟩, hre, hH', hE2⟩
  cases hre with
  | ret d v hv =>
    obtain ⟨tmps, hl2, hsz2, hrel2⟩ := hH' _ _ hl'
    have hlt2 : w.heap.size + 1 < w2.heap.size := (Array.getElem?_eq_some_iff.1 hl2).1
    refine ⟨_, _, run_endLoop hl2 (by simpa using hst), ?_⟩
    obtain ⟨w4, hw4⟩ : ∃ w4, w2.putObj (w.heap.size + 1) (.loop { ({ rec0 fn ps asg body w.heap.size with state := st, pending := pe, tmps := tmps } : Loop) with state := .exhausted }) = w4 := ⟨_, rfl⟩
    have hE4 : Ext s.heap w (upd H' (w.heap.size + 1) none) w4 := by
      rw [← hw4]
      refine ⟨hE2.os.trans hE1.os, hE2.tape.trans hE1.tape, hE2.output.trans hE1.output, by have := hE2.size; simp only [World.putObj_size]; omega, fun b hb hn => ?_, fun b hb => ?_, fun b hb => ?_, fun a => ?_⟩
      · rw [World.putObj_heap_other (by omega), hE2.block b (by omega) (by rw [← hH1]; simp only [upd]; rw [if_neg (by omega)]; exact hn), hbl b hb]
      · by_cases e : b = w.heap.size + 1
        · simp [upd, e] at hb
        · simp only [upd, if_neg e] at hb
          rcases hE2.own b hb with k | k
          · rw [← hH1] at k; simp only [upd, if_neg e] at k; exact .inl k
          · exact .inr (by omega)
      · rw [csize_putObj hl2 rfl rfl b, hE2.keep b (by omega), hbl b hb]
      · rw [putObj_fz hl2 rfl rfl, hE2.fz, hE1.fz]
    have hHD : H' w.heap.size = none := by
      cases e : H' w.heap.size with
      | none => rfl
      | some o =>
        rcases hE2.own _ (by rw [e]; simp) with k | k
        · rw [← hH1] at k; simp only [upd] at k; rw [if_neg (by omega)] at k; exact (k (hn0 _ (Nat.le_refl _))).elim
        · omega
    have hD4 : w4.heap[w.heap.size]? = some (.deferred (some [])) := by
      rw [← hw4, World.putObj_heap_other (by omega), hE2.block _ (by omega) (by rw [← hH1]; simp only [upd]; rw [if_neg (by omega)]; exact hn0 _ (Nat.le_refl _))]
      exact hK1
    have hS4 : Sim G ⟨N, B⟩ ⟨s.env, upd H' (w.heap.size + 1) none⟩ { a with defers := [{ target := .collected w.heap.size, args := #[] }] ++ a.defers } w4 := by
      refine ⟨hS.size, ?_, fun i hi => (hS.tmps i hi).lasts hE4.lasts, ?_, hS.glob.lasts hE4.lasts, Nat.le_trans hS.base hE4.size⟩
      · obtain ⟨Ds, g1, g2, g3⟩ := hS.defers.ext hE4
        obtain ⟨Ds', g1', g2', g3'⟩ := hS.defers
        have hDs : Ds = Ds' := by
          have := g1.symm.trans g1'
          clear g1 g2 g3 g1' g2' g3'
          induction Ds generalizing Ds' with
          | nil => cases Ds' <;> simp_all
          | cons x xs ih =>
            cases Ds' with
            | nil => simp at this
            | cons y ys =>
              simp only [List.map_cons, List.cons.injEq] at this
              obtain ⟨t1, t2⟩ := this
              have := ih ys t2
              simp at t1
              rw [t1, this]
        subst hDs
        refine ⟨w.heap.size :: Ds, by rw [g1]; rfl, List.nodup_cons.2 ⟨fun hm => ?_, g2⟩, fun D hD => ?_⟩
        · have := (Array.getElem?_eq_some_iff.1 (g3' _ hm).2.1).1
          omega
        · rcases List.mem_cons.1 hD with rfl | hD
          · exact ⟨hS.base, hD4, by simp only [upd]; split; rfl; exact hHD⟩
          · exact g3 D hD
      · rw [← hw4]
        exact putObj_sim hl2 rfl rfl (hH'.letGo _) (by simp [upd])
    have hw4' : w2.putObj (w.heap.size + 1) (.loop { ({ ({ rec0 fn ps asg body w.heap.size with state := st, pending := pe } : Loop) with tmps := tmps } : Loop) with state := .exhausted }) = w4 := hw4
    rw [hw4']
    cases pe with
    | none => exact ⟨_, _, hq, .normal, hS4, hE4⟩
    | some c =>
      simp only [DJumpO] at hq
      cases c <;> first | exact hq.elim | skip
      case ret => exact wpIn_ret ⟨_, _, hq, .ret, hS4, hE4⟩
      case exit id => exact wpIn_exit ⟨_, _, hq, .exit id, hS4, hE4⟩
      case goto t => exact wpIn_goto ⟨_, _, hq, .goto t, hS4, hE4⟩

end
end Go.Dl
