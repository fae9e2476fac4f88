/- The data level and the contracts of the functions that are reached (part 4). -/
import Derived.DeepKeys4
import Derived.LaidLaws
import Derived.Stop.LaidErr
import Derived.Shelf.Vars
import Derived.Test.YtojpnjngdiimhaaGreatDoorRows
import Derived.Shelf.Lays
import Derived.Shelf.LaysM
import Derived.Shelf.Pu.ParseUintPublic10
import Derived.Shelf.Small.Strs
import Derived.Shelf.Strconv.Itoa4
import Derived.Shelf.Strings.Builder1
import Derived.Shelf.Strings.Count
import Derived.Shelf.Strings.Fields
import Derived.Shelf.Strings.OnBuilder
import Derived.Shelf.Strings.Prefix
import Derived.Shelf.Strings.Repeat
import Derived.Shelf.Strings.Search3
import Derived.Shelf.Strings.Split
import Derived.Shelf.Strings.Trim
import Derived.Test.YtojpnjngdiimhaaGreatDoorProg
import Derived.Test.YtojpnjngdiimhaaGreatDoorXc
set_option linter.unusedSimpArgs false
set_option linter.unusedVariables false
-- THE DATA LEVEL, PART 5: loops over iterators: a round, the statement.
namespace Go.Dl
open Go Go.RowKit

section
variable {P : Program} {G : Nat → DVal} {N : Nat} {w w' : World} {Q : DExit → DS → Prop}

theorem upd_idem {α : Type} (f : Nat → α) (l : Nat) (x y : α) : upd (upd f l x) l y = upd f l y := by
  funext i; simp only [upd]; split <;> rfl
theorem upd_none_self {α : Type} {f : Nat → Option α} {l : Nat} (h : f l = none) (x : Option α) : upd (upd f l x) l none = f := by
  funext i; simp only [upd]; split
  · rename_i e; subst e; exact h.symm
  · rfl

theorem dbind_rel {H : DHeap} : ∀ (ps : List Tmp) (ds : List DVal) (vs : List Value) (env : Nat → DVal) (tmps : Array Value), ds.length = ps.length → RelL w H ds vs → tmps.size = N → (∀ i, i < N → Rel w H (env i) (tmps.getD i undef)) →
    ((ps.zip vs).foldl (fun t (p, v) => t.setIfInBounds p v) tmps).size = N ∧ ∀ i, i < N → Rel w H (dbind env ps ds i) (((ps.zip vs).foldl (fun t (p, v) => t.setIfInBounds p v) tmps).getD i undef)
  | [], [], vs, env, tmps, _, hv, hs, he => by
    simp only [RelL] at hv; subst hv
    exact ⟨hs, he⟩
  | p :: ps, d :: ds, vs, env, tmps, hl, hv, hs, he => by
    simp only [RelL] at hv
    obtain ⟨y, ys, rfl, h1, h2⟩ := hv
    simp only [List.zip_cons_cons, List.foldl_cons, dbind]
    refine dbind_rel ps ds ys (upd env p d) (tmps.setIfInBounds p y) (by simpa using hl) h2 (by simpa using hs) fun i hi => ?_
    simp only [upd]
    by_cases e : i = p
    · subst e
      have : (tmps.setIfInBounds i y).getD i undef = y := by simp [Array.getD, hs, hi]
      rw [if_pos rfl, this]; exact h1
    · rw [if_neg e]
      have : (tmps.setIfInBounds p y).getD i undef = tmps.getD i undef := by
        rw [Array.getD_eq_getD_getElem?, Array.getD_eq_getD_getElem?, Array.getElem?_setIfInBounds_ne (Ne.symm e)]
      rw [this]; exact he i hi
  | [], _ :: _, _, _, _, hl, _, _, _ => by simp at hl
  | _ :: _, [], _, _, _, hl, _, _, _ => by simp at hl

theorem ext_book {H H' : DHeap} {l : Nat} {o o' : Obj} {ob : Option DObj} (hl : H l ≠ none) (hlt : l < w.heap.size) (hE : Ext (upd H l none) w H' w') (ho : w'.heap[l]? = some o) (h : isBook o = true) (h' : isBook o' = true) :
    Ext H w (upd H' l ob) (w'.putObj l o') := by
  refine ⟨hE.os, hE.tape, hE.output, by simpa [World.putObj] using hE.size, fun b hb hn => ?_, fun b hb => ?_, fun b hb => ?_, fun a ha hn => ?_⟩
  · have e : b ≠ l := fun e => hl (e ▸ hn)
    rw [World.putObj_heap_other e]
    exact hE.block b hb (by simp [upd, e, hn])
  · by_cases e : b = l
    · exact .inl (e ▸ hl)
    · simp only [upd, if_neg e] at hb
      rcases hE.own b hb with k | k
      · simp only [upd, if_neg e] at k; exact .inl k
      · exact .inr k
  · rw [csize_putObj ho h h' b]; exact hE.keep b hb
  · rw [putObj_fz ho h h' a]; exact hE.fz a ha (by simp only [upd]; split; rfl; exact hn)

theorem lasts_book {H : DHeap} {l : Nat} {o : Obj} {ob : Option DObj} (ho : w.heap[l]? = some o) (h : isBook o = true) : Lasts H w (upd H l ob) w := by
  refine ⟨fun b i x hb hc => ⟨?_, hc⟩, Nat.le_refl _, fun _ _ => rfl⟩
  by_cases e : b = l
  · subst e; unfold World.cell? at hc; rw [ho] at hc; cases o <;> first | cases h; done | simp at hc
  · simp [upd, e, hb]

theorem simHeap_book {H : DHeap} {l : Nat} {o : Obj} {ob : DObj} (hH : SimHeap w H) (hn : H l = none) (ho : w.heap[l]? = some o) (h : isBook o = true) (hob : RelObj w (upd H l (some ob)) ob w.heap[l]?) : SimHeap w (upd H l (some ob)) := by
  intro r x hx
  by_cases e : r = l
  · subst e; simp only [upd, if_pos] at hx; cases hx; exact hob
  · simp only [upd, if_neg e] at hx
    exact (hH r x hx).lasts (lasts_book ho h)

/-- The way in which a round is left, as the iterator and the record see it. -/
def DRound (R : DEnd → DHeap → Prop) (l : Nat) (env : Nat → DVal) (N : Nat) (r : Loop) : DExit → DS → Prop
  | .normal, s => R (.ret (.bool true)) (upd s.heap l (some (.loop env N r)))
  | .ret, s => R (.ret (.bool false)) (upd s.heap l (some (.loop env N { r with state := .done, pending := some .ret })))
  | .exit id, s => R (.ret (.bool false)) (upd s.heap l (some (.loop env N { r with state := .done, pending := some (.exit id) })))
  | .goto t, s => R (.ret (.bool false)) (upd s.heap l (some (.loop env N { r with state := .done, pending := some (.goto t) })))
  | .panic _, _ => False

def DThen (K : DK) : DExit → DS → Prop
  | .normal, s => K s
  | _, _ => False

/-- **A ROUND**, out of its body. -/
theorem dyields_intro {l : Nat} {args : List DVal} {H : DHeap} {R : DEnd → DHeap → Prop} {env : Nat → DVal} {r : Loop} (hl : H l = some (.loop env N r)) (hst : r.state = .ready) (hpe : r.pending = none) (hps : args.length = r.params.size)
    (hok : (codeOk N r.assign && codeOk N r.body && flat r.assign && flat r.body) = true)
    (Qb : DExit → DS → Prop) (h : dwp P G N r.assign (DThen (dwp P G N r.body Qb)) ⟨dbind env r.params.toList args, upd H l none⟩) (hqb : ∀ e s, Qb e s → s.heap l = none → DRound R l env N r e s) : DYields P G l args H R := by
  intro F n hF vs w hv hH hG
  simp only [Bool.and_eq_true] at hok
  obtain ⟨⟨⟨ok1, ok2⟩, fl1⟩, fl2⟩ := hok
  obtain ⟨tmps, h1, h2, h3⟩ := hH l _ hl
  have hlt : l < w.heap.size := (Array.getElem?_eq_some_iff.1 h1).1
  have hvl := hv.length
  refine ⟨_, _, _, _, run_yield h1 (by simp; omega), roundIn_of_wpIn (hF.fn _) ?_⟩
  have hF' : FOk (F.inRound l) := by
    rcases hF with rfl | ⟨l0, rfl⟩
    · exact .inr ⟨l, rfl⟩
    · exact .inr ⟨l, rfl⟩
  have hlg : Lasts H w (upd H l none) w := lasts_book h1 rfl
  have hb := dbind_rel (w := w) (H := upd H l none) r.params.toList args vs env tmps (by simpa using hps) (hv.lasts hlg) h2 (fun i hi => (h3 i hi).lasts hlg)
  have hfold : (r.params.zip vs.toArray).foldl (fun t (p, v) => t.setIfInBounds p v) tmps = (r.params.toList.zip vs).foldl (fun t (p, v) => t.setIfInBounds p v) tmps := by
    rw [← Array.foldl_toList, Array.toList_zip]
  have hS : Sim G ⟨N, w.heap.size⟩ ⟨dbind env r.params.toList args, upd H l none⟩ { tmps := (r.params.zip vs.toArray).foldl (fun t (p, v) => t.setIfInBounds p v) tmps, defers := [] } w := by
    rw [hfold]
    exact ⟨hb.1, Dfs.nil _ _ _, hb.2, hH.letGo l, hG.lasts hlg, Nat.le_refl _⟩
  refine wpIn_mono (dwp_soundF hF' r.assign ok1 (.inr fl1) _ _ h _ w hS) ?_
  rintro e a1 w1 ⟨e', s1, hQ, hX, hS1, hE1⟩
  cases hX <;> first | exact hQ.elim | skip
  have hn1 : s1.heap l = none := by
    cases e : s1.heap l with
    | none => rfl
    | some o =>
      rcases hE1.own l (by simp [e]) with k | k
      · simp [upd] at k
      · omega
  have hl1 : w1.heap[l]? = some (.loop { r with tmps := tmps }) := by rw [hE1.block l hlt (by simp [upd])]; exact h1
  refine ⟨_, run_beginRound hl1 (by simpa using hst), ?_⟩
  obtain ⟨w2, hw2⟩ : ∃ w2, w1.putObj l (.loop { { r with tmps := tmps } with state := .busy }) = w2 := ⟨_, rfl⟩
  have hlt1 : l < w1.heap.size := (Array.getElem?_eq_some_iff.1 hl1).1
  have hl2 : w2.heap[l]? = some (.loop { { r with tmps := tmps } with state := .busy }) := by rw [← hw2]; exact World.putObj_heap_same hlt1
  have hLp := putObj_lasts (o' := .loop { { r with tmps := tmps } with state := .busy }) hl1 rfl rfl s1.heap
  rw [hw2] at hLp ⊢
  have hS2 : Sim G ⟨N, w.heap.size⟩ s1 a1 w2 := by
    refine ⟨hS1.size, ?_, fun i hi => (hS1.tmps i hi).lasts hLp, ?_, hS1.glob.lasts hLp, ?_⟩
    · obtain ⟨Ds, g1, g2, g3⟩ := hS1.defers
      refine ⟨Ds, g1, g2, fun D hD => ?_⟩
      obtain ⟨k1, k2, k3⟩ := g3 D hD
      have : D ≠ l := fun e => by rw [e, hl1] at k2; cases k2
      exact ⟨k1, by rw [← hw2, World.putObj_heap_other this]; exact k2, k3⟩
    · rw [← hw2]; exact putObj_sim hl1 rfl rfl hS1.heap hn1
    · rw [← hw2]; simpa [World.putObj] using hS1.base
  have hE2 : Ext H w (upd s1.heap l (some (.loop env N r))) w2 := by
    rw [← hw2]; exact ext_book (by simp [hl]) hlt hE1 hl1 rfl rfl
  refine wpIn_mono (dwp_soundF hF' r.body ok2 (.inr fl2) _ _ hQ _ w2 hS2) ?_
  rintro e a3 w3 ⟨e', s3, hQ3', hX3, hS3, hE3⟩
  have hlt2 : l < w2.heap.size := (Array.getElem?_eq_some_iff.1 hl2).1
  have hn3 : s3.heap l = none := by
    cases e : s3.heap l with
    | none => rfl
    | some o =>
      rcases hE3.own l (by simp [e]) with k | k
      · exact (k hn1).elim
      · omega
  have hQ3 := hqb _ _ hQ3' hn3
  have hl3 : w3.heap[l]? = some (.loop { { r with tmps := tmps } with state := .busy }) := by rw [hE3.block l hlt2 hn1]; exact hl2
  have hlt3 : l < w3.heap.size := (Array.getElem?_eq_some_iff.1 hl3).1
  have fin : ∀ (r' : Loop), (∃ st pe, r' = { r with state := st, pending := pe }) →
      SimHeap (w3.putObj l (.loop { r' with tmps := tmps })) (upd s3.heap l (some (.loop env N r'))) ∧ Ext H w (upd s3.heap l (some (.loop env N r'))) (w3.putObj l (.loop { r' with tmps := tmps })) := by
    rintro r' ⟨st, pe, rfl⟩
    have hE4 : Ext (upd s1.heap l (some (.loop env N r))) w2 (upd s3.heap l (some (.loop env N { r with state := st, pending := pe }))) (w3.putObj l (.loop { { r with state := st, pending := pe } with tmps := tmps })) :=
      ext_book (by simp [upd]) hlt2 (by rw [upd_none_self hn1]; exact hE3) hl3 rfl rfl
    have hE := hE2.trans hE4
    refine ⟨simHeap_book (putObj_sim hl3 rfl rfl hS3.heap hn3) hn3 (World.putObj_heap_same hlt3) rfl ?_, hE⟩
    rw [World.putObj_heap_same hlt3]
    exact ⟨tmps, rfl, h2, fun i hi => (h3 i hi).lasts hE.lasts⟩
  cases hX3 with
  | normal =>
    obtain ⟨g1, g2⟩ := fin r ⟨r.state, r.pending, rfl⟩
    refine ⟨_, _, run_endRound none hl3, .ret (.bool true), _, hQ3, .ret _ _ (by simp [Rel]), ?_⟩
    have : ({ ({ { r with tmps := tmps } with state := .busy } : Loop) with state := (if (none : Option Code).isNone then LoopState.ready else .done), pending := none } : Loop) = { r with tmps := tmps } := by
      cases r; simp at hst hpe; subst hst; subst hpe; rfl
    rw [this]
    exact ⟨g1, g2⟩
  | ret =>
    obtain ⟨g1, g2⟩ := fin _ ⟨.done, some .ret, rfl⟩
    exact ⟨_, _, run_endRound (some .ret) hl3, .ret (.bool false), _, hQ3, .ret _ _ (by simp [Rel]), g1, g2⟩
  | exit id =>
    obtain ⟨g1, g2⟩ := fin _ ⟨.done, some (.exit id), rfl⟩
    exact ⟨_, _, run_endRound (some (.exit id)) hl3, .ret (.bool false), _, hQ3, .ret _ _ (by simp [Rel]), g1, g2⟩
  | goto t =>
    obtain ⟨g1, g2⟩ := fin _ ⟨.done, some (.goto t), rfl⟩
    exact ⟨_, _, run_endRound (some (.goto t)) hl3, .ret (.bool false), _, hQ3, .ret _ _ (by simp [Rel]), g1, g2⟩
  | panic d v hv => exact hQ3.elim

/-- The jump that a round has left is made. -/
def DJump (Q : DExit → DS → Prop) : Code → DS → Prop
  | .ret, s => Q .ret s
  | .exit id, s => Q (.exit id) s
  | .goto t, s => Q (.goto t) s
  | _, _ => False
def DJumpO (Q : DExit → DS → Prop) : Option Code → DS → Prop
  | none, s => Q .normal s
  | some c, s => DJump Q c s

/-- A loop's record as it is laid. -/
def rec0 (fn : FuncId) (ps : Array Tmp) (asg body : Code) (D : Nat) : Loop := { state := .ready, pending := none, fn, tmps := #[], params := ps, assign := asg, body, defers := D }

theorem frozen_book {o : Obj} (h : isBook o = true) (a : Addr) : (w.alloc o).frozen? a = w.frozen? a := by
  unfold World.frozen?
  have hh : (w.alloc o).heap[a.block]? = if a.block = w.heap.size then some o else w.heap[a.block]? := by
    show (w.heap.push o)[a.block]? = _
    rw [Array.getElem?_push]
  rw [hh]
  by_cases e : a.block = w.heap.size
  · rw [if_pos e, e, Array.getElem?_eq_none (Nat.le_refl _)]
    cases o <;> first | cases h; done | rfl
  · rw [if_neg e]

/-- **THE STATEMENT 'for .. := range f { .. }'.** -/
theorem dwp0_rangeFunc {g : Operand} {ps : Array Tmp} {asg body : Code} {s : DS} {gf : FuncId} {captured : List DVal} (hgo : opdOk N g = true) (hg : dev G s.env g = .func (.func gf) [] captured)
    (h : ∀ l D fn, s.heap l = none → DCalls P G gf (.func (.yield l) [] [] :: captured) (upd s.heap l (some (.loop s.env N (rec0 fn ps asg body D)))) (fun e H' => ∃ v, e = .ret v ∧ ∃ st pe, st ≠ .busy ∧
      H' l = some (.loop s.env N { rec0 fn ps asg body D with state := st, pending := pe }) ∧ DJumpO Q pe ⟨s.env, upd H' l none⟩)) : DWp0 P G N (.rangeFunc g ps asg body) Q s := by
  intro n B a w hS
  refine wpIn_rangeFunc fun fn hfn => ?_
  have rg := rel_dev (N := ⟨N, B⟩) hS hgo
  rw [hg] at rg
  simp only [Rel, RelL] at rg
  obtain ⟨xs, lb, hfv, hxs, hlb⟩ := rg
  have hxs : xs = #[] := by cases xs; simp at hxs; subst hxs; rfl
  subst hxs
  obtain ⟨W1, hW1⟩ : ∃ W1, (w.alloc (.deferred (some []))).alloc (.loop { rec0 fn ps asg body w.heap.size with tmps := a.tmps }) = W1 := ⟨_, rfl⟩
  have hsz : W1.heap.size = w.heap.size + 2 := by rw [← hW1]; simp
  have hL1 : W1.heap[w.heap.size + 1]? = some (.loop { rec0 fn ps asg body w.heap.size with tmps := a.tmps }) := by
    rw [← hW1]; have := World.alloc_heap_new (w.alloc (.deferred (some []))) (.loop { rec0 fn ps asg body w.heap.size with tmps := a.tmps }); rwa [World.size_alloc] at this
  have hK1 : W1.heap[w.heap.size]? = some (.deferred (some [])) := by
    rw [← hW1]; exact (Below.heap_alloc _ _ _ (by simp)).trans (World.alloc_heap_new w _)
  have hbl : ∀ b, b < w.heap.size → W1.heap[b]? = w.heap[b]? := fun b hb => by
    rw [← hW1, Below.heap_alloc _ _ _ (by simp; omega), Below.heap_alloc _ _ _ hb]
  have hn0 : ∀ b, w.heap.size ≤ b → s.heap b = none := fun b hb => by
    cases e : s.heap b with
    | none => rfl
    | some o => exact absurd (hS.heap.lt (r := b) (by simp [e])) (by omega)
  obtain ⟨H1, hH1⟩ : ∃ H1, upd s.heap (w.heap.size + 1) (some (.loop s.env N (rec0 fn ps asg body w.heap.size))) = H1 := ⟨_, rfl⟩
  have hE1 : Ext s.heap w H1 W1 := by
    refine ⟨by rw [← hW1]; rfl, by rw [← hW1]; rfl, by rw [← hW1]; rfl, by omega, fun b hb _ => hbl b hb, fun b hb => ?_, fun b hb => by rw [hbl b hb], fun a _ _ => ?_⟩
    · rw [← hH1] at hb
      by_cases e : b = w.heap.size + 1
      · exact .inr (by omega)
      · simp only [upd, if_neg e] at hb; exact .inl hb
    · rw [← hW1, frozen_book rfl, frozen_book rfl]
  have hSH1 : SimHeap W1 H1 := by
    have h0 : SimHeap W1 s.heap := fun r o ho => by
      rw [hbl r (hS.heap.lt (by simp [ho]))]
      refine (hS.heap r o ho).lasts (H' := s.heap) ⟨fun b i x hb hc => ⟨hb, ?_⟩, by omega, fun b hb => by rw [hbl b hb]⟩
      unfold World.cell? at hc ⊢
      rw [hbl b (by exact cell_lt (b := b) (i := i) hc)]; exact hc
    rw [← hH1]
    refine simHeap_book h0 (hn0 _ (by omega)) hL1 rfl ?_
    rw [hL1, hH1]
    exact ⟨a.tmps, rfl, hS.size, fun i hi => (hS.tmps i hi).lasts hE1.lasts⟩
  have hc := h (w.heap.size + 1) w.heap.size fn (hn0 _ (by omega))
  rw [hH1] at hc
  refine ⟨w.heap.size + 1, [{ target := .collected w.heap.size, args := #[] }], W1, { target := .fn (.func gf) lb, args := #[.func (.yield (w.heap.size + 1)) #[] #[]] }, W1, gf,
    #[.func (.yield (w.heap.size + 1)) #[] #[]] ++ lb, W1, ?_, ?_, ?_, ?_, ?_, ?_⟩
  · rw [← hW1]; exact run_enterLoop_outer _ _ _ _ _
  · simp only [resolve, hfv]
    simp [go_sem]
  · intro f' hf'; trivial
  · simp only [invoke]; exact hc.1 _ _
  · intro hh; cases hh
  refine callsIn_wide.2 ?_
  have harr : (#[.func (.yield (w.heap.size + 1)) #[] #[]] ++ lb : Array Value) = (.func (.yield (w.heap.size + 1)) #[] #[] :: lb.toList).toArray := by apply Array.ext'; simp
  rw [harr]
  have hargs : RelL W1 H1 (.func (.yield (w.heap.size + 1)) [] [] :: captured) (.func (.yield (w.heap.size + 1)) #[] #[] :: lb.toList) := by
    simp only [RelL]
    exact ⟨_, _, rfl, by simp only [Rel, RelL]; exact ⟨#[], #[], rfl, rfl, rfl⟩, RelL.lasts hE1.lasts _ _ hlb⟩
  refine (hc.2 _ _ hargs hSH1 (hS.glob.lasts hE1.lasts)).mono ?_
  rintro e w2 ⟨e', H', ⟨v, rfl, st, pe, hst, hl', hq⟩, hre, hH', hE2⟩
  cases hre with
  | ret d v hv =>
    obtain ⟨tmps, hl2, hsz2, hrel2⟩ := hH' _ _ hl'
    have hlt2 : w.heap.size + 1 < w2.heap.size := (Array.getElem?_eq_some_iff.1 hl2).1
    refine ⟨_, _, run_endLoop hl2 (by simpa using hst), ?_⟩
    obtain ⟨w4, hw4⟩ : ∃ w4, w2.putObj (w.heap.size + 1) (.loop { ({ rec0 fn ps asg body w.heap.size with state := st, pending := pe, tmps := tmps } : Loop) with state := .exhausted }) = w4 := ⟨_, rfl⟩
    have hE4 : Ext s.heap w (upd H' (w.heap.size + 1) none) w4 := by
      rw [← hw4]
      refine ⟨hE2.os.trans hE1.os, hE2.tape.trans hE1.tape, hE2.output.trans hE1.output, by have := hE2.size; simp only [World.putObj_size]; omega, fun b hb hn => ?_, fun b hb => ?_, fun b hb => ?_, fun a ha hn => ?_⟩
      · rw [World.putObj_heap_other (by omega), hE2.block b (by omega) (by rw [← hH1]; simp only [upd]; rw [if_neg (by omega)]; exact hn), hbl b hb]
      · by_cases e : b = w.heap.size + 1
        · simp [upd, e] at hb
        · simp only [upd, if_neg e] at hb
          rcases hE2.own b hb with k | k
          · rw [← hH1] at k; simp only [upd, if_neg e] at k; exact .inl k
          · exact .inr (by omega)
      · rw [csize_putObj hl2 rfl rfl b, hE2.keep b (by omega), hbl b hb]
      · rw [putObj_fz hl2 rfl rfl, hE2.fz a (Nat.lt_of_lt_of_le ha hE1.size) (by rw [← hH1]; simp only [upd]; rw [if_neg (by omega)]; exact hn), hE1.fz a ha hn]
    have hHD : H' w.heap.size = none := by
      cases e : H' w.heap.size with
      | none => rfl
      | some o =>
        rcases hE2.own _ (by rw [e]; simp) with k | k
        · rw [← hH1] at k; simp only [upd] at k; rw [if_neg (by omega)] at k; exact (k (hn0 _ (Nat.le_refl _))).elim
        · omega
    have hD4 : w4.heap[w.heap.size]? = some (.deferred (some [])) := by
      rw [← hw4, World.putObj_heap_other (by omega), hE2.block _ (by omega) (by rw [← hH1]; simp only [upd]; rw [if_neg (by omega)]; exact hn0 _ (Nat.le_refl _))]
      exact hK1
    have hS4 : Sim G ⟨N, B⟩ ⟨s.env, upd H' (w.heap.size + 1) none⟩ { a with defers := [{ target := .collected w.heap.size, args := #[] }] ++ a.defers } w4 := by
      refine ⟨hS.size, ?_, fun i hi => (hS.tmps i hi).lasts hE4.lasts, ?_, hS.glob.lasts hE4.lasts, Nat.le_trans hS.base hE4.size⟩
      · obtain ⟨Ds, g1, g2, g3⟩ := hS.defers.ext hE4
        obtain ⟨Ds', g1', g2', g3'⟩ := hS.defers
        have hDs : Ds = Ds' := by
          have := g1.symm.trans g1'
          clear g1 g2 g3 g1' g2' g3'
          induction Ds generalizing Ds' with
          | nil => cases Ds' <;> simp_all
          | cons x xs ih =>
            cases Ds' with
            | nil => simp at this
            | cons y ys =>
              simp only [List.map_cons, List.cons.injEq] at this
              obtain ⟨t1, t2⟩ := this
              have := ih ys t2
              simp at t1
              rw [t1, this]
        subst hDs
        refine ⟨w.heap.size :: Ds, by rw [g1]; rfl, List.nodup_cons.2 ⟨fun hm => ?_, g2⟩, fun D hD => ?_⟩
        · have := (Array.getElem?_eq_some_iff.1 (g3' _ hm).2.1).1
          omega
        · rcases List.mem_cons.1 hD with rfl | hD
          · exact ⟨hS.base, hD4, by simp only [upd]; split; rfl; exact hHD⟩
          · exact g3 D hD
      · rw [← hw4]
        exact putObj_sim hl2 rfl rfl (hH'.letGo _) (by simp [upd])
    have hw4' : w2.putObj (w.heap.size + 1) (.loop { ({ ({ rec0 fn ps asg body w.heap.size with state := st, pending := pe } : Loop) with tmps := tmps } : Loop) with state := .exhausted }) = w4 := hw4
    rw [hw4']
    cases pe with
    | none => exact ⟨_, _, hq, .normal, hS4, hE4⟩
    | some c =>
      simp only [DJumpO] at hq
      cases c <;> first | exact hq.elim | skip
      case ret => exact wpIn_ret ⟨_, _, hq, .ret, hS4, hE4⟩
      case exit id => exact wpIn_exit ⟨_, _, hq, .exit id, hS4, hE4⟩
      case goto t => exact wpIn_goto ⟨_, _, hq, .goto t, hS4, hE4⟩

end
end Go.Dl

-- THE DATA LEVEL, PART 6: a heap in two parts; the contract of an iterator; the loop over it.
namespace Go.Dl
open Go Go.RowKit

/-- The part X over the part Hi. -/
def over (Hi X : DHeap) : DHeap := fun r => match X r with
  | some o => some o
  | none => Hi r
def Disj (Hi X : DHeap) : Prop := ∀ r, X r ≠ none → Hi r = none
/-- No block. -/
def h0 : DHeap := fun _ => none

theorem over_h0 (Hi : DHeap) : over Hi h0 = Hi := rfl
theorem h0_over (X : DHeap) : over h0 X = X := by funext r; unfold over h0; cases X r <;> rfl
theorem upd_over (Hi X : DHeap) (r : Nat) (o : DObj) : upd (over Hi X) r (some o) = over Hi (upd X r (some o)) := by
  funext i; simp only [upd, over]; by_cases e : i = r <;> simp [e]
theorem upd_over_none {Hi X : DHeap} {r : Nat} (h : Hi r = none) : upd (over Hi X) r none = over Hi (upd X r none) := by
  funext i; simp only [upd, over]; by_cases e : i = r
  · subst e; simp [h]
  · simp [e]
theorem upd_over_lo {Hi X : DHeap} {r : Nat} (h : X r = none) (o : Option DObj) : upd (over Hi X) r o = over (upd Hi r o) X := by
  funext i; simp only [upd, over]; by_cases e : i = r
  · subst e; simp [h]
  · simp [e]
theorem over_eq_none {Hi X : DHeap} {r : Nat} : over Hi X r = none ↔ Hi r = none ∧ X r = none := by
  unfold over; cases h : X r <;> simp
theorem over_hi {Hi X : DHeap} {r : Nat} (h : X r = none) : over Hi X r = Hi r := by simp [over, h]
theorem over_x {Hi X : DHeap} {r : Nat} {o : DObj} (h : X r = some o) : over Hi X r = some o := by simp [over, h]
theorem upd_eq_none {H : DHeap} {r r' : Nat} {o : DObj} : upd H r (some o) r' = none ↔ r' ≠ r ∧ r ≠ r' ∧ H r' = none := by
  unfold upd; by_cases e : r' = r
  · simp [e]
  · simp [e, Ne.symm e, eq_comm]
theorem h0_none (r : Nat) : h0 r = none := rfl
theorem Disj.h0 (Hi : DHeap) : Disj Hi h0 := fun r h => (h rfl).elim
theorem Disj.hi {Hi X : DHeap} (h : Disj Hi X) {r : Nat} (hr : Hi r = none) (o : Option DObj) : Disj Hi (upd X r o) := by
  intro b hb; by_cases e : b = r
  · subst e; exact hr
  · simp only [Dl.upd, if_neg e] at hb; exact h b hb
theorem Disj.lo {Hi X : DHeap} (h : Disj Hi X) {r : Nat} (hr : X r = none) (o : Option DObj) : Disj (upd Hi r o) X := by
  intro b hb; by_cases e : b = r
  · subst e; exact (hb hr).elim
  · simp only [Dl.upd, if_neg e]; exact h b hb
theorem Disj.x {Hi X : DHeap} (h : Disj Hi X) {r : Nat} (hr : Hi r ≠ none) : X r = none := by
  cases e : X r with
  | none => rfl
  | some o => exact (hr (h r (by simp [e]))).elim

/-- **THE CONTRACT OF AN ITERATOR**: function 'gf' with 'captured' behind yield comes with the data of L, in order, and then ends; its own blocks (they lie in Hi) do not turn in the rounds. 'I k X': k rounds are over, and the loop's own part of the heap is X. 'Ix o X': a round has said 'no more'; o: the loop's record as it is then. -/
def DIter (P : Program) (G : Nat → DVal) (gf : FuncId) (captured : List DVal) (Y : DHeap) (L : List (List DVal)) : Prop :=
  ∀ (l : Nat) (I : Nat → DHeap → Prop) (Ix : Option DObj → DHeap → Prop) (Hi X : DHeap), Disj Hi X → Disj Hi Y → Disj Y X → Y l = none → Hi l ≠ none → I 0 X →
    (∀ k x Hi' X, Disj Hi' X → Hi' l = Hi l → L[k]? = some x → I k X → DYields P G l x (over Hi' X) fun e H' => ∃ X',
      (e = .ret (.bool true) ∧ H' = over Hi' X' ∧ Disj Hi' X' ∧ I (k + 1) X') ∨ (e = .ret (.bool false) ∧ ∃ o, o ≠ none ∧ H' = over (upd Hi' l o) X' ∧ Disj (upd Hi' l o) X' ∧ Ix o X')) →
    DCalls P G gf (.func (.yield l) [] [] :: captured) (over (over Hi Y) X) fun e H' => (∃ v, e = .ret v) ∧ ∃ X',
      (H' = over Hi X' ∧ Disj Hi X' ∧ I L.length X') ∨ (∃ o, o ≠ none ∧ H' = over (upd Hi l o) X' ∧ Disj (upd Hi l o) X' ∧ Ix o X')

section
variable {P : Program} {G : Nat → DVal} {N : Nat} {Q : DExit → DS → Prop}

/-- How a round's body is left, as the loop's invariant sees it. -/
def DBodyQ (Hi : DHeap) (J : DHeap → Prop) (Jx : Code → DHeap → Prop) : DExit → DS → Prop
  | .normal, s => ∃ X, s.heap = over Hi X ∧ Disj Hi X ∧ J X
  | .ret, s => ∃ X, s.heap = over Hi X ∧ Disj Hi X ∧ Jx .ret X
  | .exit id, s => ∃ X, s.heap = over Hi X ∧ Disj Hi X ∧ Jx (.exit id) X
  | .goto t, s => ∃ X, s.heap = over Hi X ∧ Disj Hi X ∧ Jx (.goto t) X
  | .panic _, _ => False

/-- **A LOOP OVER AN ITERATOR.** 'I k X': what the loop's own part of the heap is when k rounds are over; 'Ix c X': a round has left by the jump c. -/
theorem dwp0_range {g : Operand} {ps : Array Tmp} {asg body : Code} {s : DS} {gf : FuncId} {captured : List DVal} {Y : DHeap} {L : List (List DVal)} (hg : dev G s.env g = .func (.func gf) [] captured)
    (hok : (opdOk N g && codeOk N asg && codeOk N body && flat asg && flat body) = true)
    (hit : DIter P G gf captured Y L) (hL : ∀ x ∈ L, x.length = ps.size)
    (Hi X : DHeap) (hs : s.heap = over (over Hi Y) X) (d1 : Disj Hi X) (d2 : Disj Hi Y) (d3 : Disj Y X)
    (I : Nat → DHeap → Prop) (Ix : Code → DHeap → Prop) (h0 : I 0 X)
    (hbody : ∀ k x Hi X, Disj Hi X → L[k]? = some x → I k X → dwp P G N asg (DThen (dwp P G N body (DBodyQ Hi (I (k + 1)) Ix))) ⟨dbind s.env ps.toList x, over Hi X⟩)
    (hdone : ∀ X, Disj Hi X → I L.length X → Q .normal ⟨s.env, over Hi X⟩)
    (hexit : ∀ c X, Disj Hi X → Ix c X → DJump Q c ⟨s.env, over Hi X⟩) : DWp0 P G N (.rangeFunc g ps asg body) Q s := by
  simp only [Bool.and_eq_true] at hok
  obtain ⟨⟨⟨⟨k1, k2⟩, k3⟩, k4⟩, k5⟩ := hok
  refine dwp0_rangeFunc k1 hg fun l D fn hl => ?_
  rw [hs, over_eq_none, over_eq_none] at hl
  obtain ⟨⟨hlH, hlY⟩, hlX⟩ := hl
  have hH : upd s.heap l (some (.loop s.env N (rec0 fn ps asg body D))) = over (over (upd Hi l (some (.loop s.env N (rec0 fn ps asg body D)))) Y) X := by
    rw [hs, upd_over_lo hlX, upd_over_lo hlY]
  rw [hH]
  refine (hit l I (fun o X => ∃ c, o = some (.loop s.env N { rec0 fn ps asg body D with state := .done, pending := some c }) ∧ Ix c X) (upd Hi l (some (.loop s.env N (rec0 fn ps asg body D)))) X (d1.lo hlX _) (d2.lo hlY _) d3 hlY (by simp [upd]) h0 ?_).mono ?_
  · intro k x Hi' X hd hl' hx hI
    have hX : X l = none := hd.x (by rw [hl']; simp [upd])
    have hHl : over Hi' X l = some (.loop s.env N (rec0 fn ps asg body D)) := by rw [over_hi hX, hl']; simp [upd]
    refine dyields_intro hHl rfl rfl (hL x (List.mem_of_getElem? hx)) (by simp only [rec0, Bool.and_eq_true]; exact ⟨⟨⟨k2, k3⟩, k4⟩, k5⟩) _ (by rw [upd_over_lo hX]; exact hbody k x (upd Hi' l none) X (hd.lo hX _) hx hI) ?_
    rintro e ⟨env', heap'⟩ hq hn
    have back : ∀ (X' : DHeap) (o : Option DObj), Disj (upd Hi' l none) X' → X' l = none → Disj (upd Hi' l o) X' := fun X' o h h2 => by
      have := h.lo h2 o; rwa [upd_idem] at this
    have hup : ∀ X', X' l = none → ∀ o, upd (over (upd Hi' l none) X') l o = over (upd Hi' l o) X' := fun X' h o => by
      rw [upd_over_lo h, upd_idem]
    have hid : upd Hi' l (some (.loop s.env N (rec0 fn ps asg body D))) = Hi' := by
      funext b; simp only [upd]; split
      · rename_i e; subst e; rw [hl']; simp [upd]
      · rfl
    cases e with
    | normal =>
      obtain ⟨X', h1, h2, h3⟩ := hq
      simp only at h1 hn; subst h1
      have hx' := (over_eq_none.1 hn).2
      refine ⟨X', .inl ⟨rfl, ?_, ?_, h3⟩⟩
      · rw [hup X' hx', hid]
      · have := back X' (some (.loop s.env N (rec0 fn ps asg body D))) h2 hx'; rw [hid] at this; exact this
    | ret =>
      obtain ⟨X', h1, h2, h3⟩ := hq
      simp only at h1 hn; subst h1
      have hx' := (over_eq_none.1 hn).2
      exact ⟨X', .inr ⟨rfl, some (.loop s.env N { rec0 fn ps asg body D with state := .done, pending := some .ret }), Option.some_ne_none _, hup X' hx' _, back X' _ h2 hx', _, rfl, h3⟩⟩
    | exit id =>
      obtain ⟨X', h1, h2, h3⟩ := hq
      simp only at h1 hn; subst h1
      have hx' := (over_eq_none.1 hn).2
      exact ⟨X', .inr ⟨rfl, some (.loop s.env N { rec0 fn ps asg body D with state := .done, pending := some (.exit id) }), Option.some_ne_none _, hup X' hx' _, back X' _ h2 hx', _, rfl, h3⟩⟩
    | goto t =>
      obtain ⟨X', h1, h2, h3⟩ := hq
      simp only at h1 hn; subst h1
      have hx' := (over_eq_none.1 hn).2
      exact ⟨X', .inr ⟨rfl, some (.loop s.env N { rec0 fn ps asg body D with state := .done, pending := some (.goto t) }), Option.some_ne_none _, hup X' hx' _, back X' _ h2 hx', _, rfl, h3⟩⟩
    | panic v => exact hq.elim
  · rintro e H' ⟨⟨v, rfl⟩, X', (⟨rfl, hd, hi⟩ | ⟨o, ho, rfl, hd, c, rfl, hx⟩)⟩
    · have hX : X' l = none := hd.x (by simp [upd])
      refine ⟨v, rfl, .ready, none, by simp, ?_, ?_⟩
      · rw [over_hi hX]; simp [upd, rec0]
      · simp only [DJumpO]
        rw [upd_over_lo hX, upd_none_self hlH]
        refine hdone X' ?_ hi
        have := hd.lo hX none
        rwa [upd_none_self hlH] at this
    · have hX : X' l = none := hd.x (by simp [upd])
      refine ⟨v, rfl, .done, some c, by simp, ?_, ?_⟩
      · rw [over_hi hX]; simp [upd]
      · simp only [DJumpO]
        rw [upd_over_lo hX, upd_idem, upd_none_self hlH]
        refine hexit c X' ?_ hx
        have := hd.lo hX none
        rwa [upd_idem, upd_none_self hlH] at this
end
end Go.Dl

-- THE DATA LEVEL, PART 7: own memory seen as memory that lasts; calls that only look.
namespace Go.Dl
open Go Go.RowKit

mutual
/-- The value, with block r (its cells: cs) seen as memory that lasts. -/
def fz (r : Nat) (cs : List DVal) : DVal → DVal
  | .optr r' off => if r' = r then .vptr cs off else .optr r' off
  | .oslice sz r' off len lo => if r' = r then .vslice ((cs.drop off).take (len * sz)) len else .oslice sz r' off len lo
  | .func fn a c => .func fn (fzs r cs a) (fzs r cs c)
  | .iface t v => .iface t (fz r cs v)
  | .agg l => .agg (fzs r cs l)
  | .tuple l => .tuple (fzs r cs l)
  | .vptr l off => .vptr (fzs r cs l) off
  | .vslice l n => .vslice (fzs r cs l) n
  | d => d
def fzs (r : Nat) (cs : List DVal) : List DVal → List DVal
  | [] => []
  | d :: ds => fz r cs d :: fzs r cs ds
end

section
variable {P : Program} {G : Nat → DVal} {w : World} {H : DHeap}

theorem lasts_letGo (H : DHeap) (r : Nat) (w : World) : Lasts H w (upd H r none) w :=
  ⟨fun b i x hb hc => ⟨by simp only [upd]; split; rfl; exact hb, hc⟩, Nat.le_refl _, fun _ _ => rfl⟩

theorem own_cellsAt (hH : SimHeap w H) {r : Nat} {cs : List DVal} {e : TypeId} (hr : H r = some (.cells cs e)) : ∃ xs, RelL w (upd H r none) cs xs ∧ CellsAt w (upd H r none) r 0 xs := by
  obtain ⟨xs, hl, hh⟩ := hH.holds hr
  exact ⟨xs, hl.lasts (lasts_letGo H r w), .inr ⟨by simp [upd], fun i x hx => by simpa using hh i x hx⟩⟩

theorem CellsAt.part {b off : Nat} {xs : List Value} (h : CellsAt w H b off xs) (m n : Nat) : CellsAt w H b (off + m) ((xs.drop m).take n) := by
  rcases h with rfl | ⟨h1, h2⟩
  · exact .inl (by simp)
  · refine .inr ⟨h1, fun i x hx => ?_⟩
    have : xs[m + i]? = some x := by
      rw [List.getElem?_take] at hx
      split at hx
      · simpa using hx
      · cases hx
    have := h2 _ x this
    rwa [← Nat.add_assoc] at this

mutual
theorem fz_rel (hH : SimHeap w H) {r : Nat} {cs : List DVal} {e : TypeId} (hr : H r = some (.cells cs e)) : ∀ (d : DVal) (v : Value), Rel w H d v → Rel w (upd H r none) (fz r cs d) v
  | .optr r' off, v, h => by
    simp only [fz]
    split
    · rename_i e'; subst e'
      simp only [Rel] at h ⊢
      obtain ⟨xs, hl, hc⟩ := own_cellsAt hH hr
      exact ⟨r', 0, xs, by simpa using h, hc, hl⟩
    · simpa [Rel] using h
  | .oslice sz r' off len lo, v, h => by
    simp only [fz]
    split
    · rename_i e'; subst e'
      simp only [Rel] at h ⊢
      obtain ⟨o, cap, rfl, h1, h2, h3, h4⟩ := h
      obtain ⟨xs, hl, hc⟩ := own_cellsAt hH hr
      refine ⟨_, cap, rfl, h2, ?_⟩
      by_cases h0 : cap = 0
      · have : len = 0 := by omega
        subst this; left; simp
      · have ho : o = off := h3.resolve_left h0
        subst ho
        right
        refine ⟨r', o, (xs.drop o).take (len * sz), rfl, ?_, (hl.drop o).take _⟩
        have := hc.part o (len * sz)
        simpa using this
    · exact Rel.lasts (lasts_letGo H r w) _ _ h
  | .func fn a c, v, h => by
    simp only [Rel, fz] at h ⊢
    obtain ⟨xs, ys, rfl, h1, h2⟩ := h
    exact ⟨xs, ys, rfl, fzs_rel hH hr _ _ h1, fzs_rel hH hr _ _ h2⟩
  | .iface t d, v, h => by
    simp only [Rel, fz] at h ⊢
    obtain ⟨x, rfl, h1⟩ := h
    exact ⟨x, rfl, fz_rel hH hr _ _ h1⟩
  | .agg l, v, h => by
    simp only [Rel, fz] at h ⊢
    obtain ⟨x, rfl, h1⟩ := h
    exact ⟨x, rfl, fzs_rel hH hr _ _ h1⟩
  | .tuple l, v, h => by
    simp only [Rel, fz] at h ⊢
    obtain ⟨x, rfl, h1⟩ := h
    exact ⟨x, rfl, fzs_rel hH hr _ _ h1⟩
  | .raw x, v, h => by simp only [fz]; exact Rel.lasts (lasts_letGo H r w) _ _ h
  | .bool x, v, h => by simp only [fz]; exact Rel.lasts (lasts_letGo H r w) _ _ h
  | .int x y, v, h => by simp only [fz]; exact Rel.lasts (lasts_letGo H r w) _ _ h
  | .str x, v, h => by simp only [fz]; exact Rel.lasts (lasts_letGo H r w) _ _ h
  | .nilPtr, v, h => by simp only [fz]; exact Rel.lasts (lasts_letGo H r w) _ _ h
  | .vptr l off, v, h => by
    simp only [Rel, fz] at h ⊢
    obtain ⟨b, o, xs, rfl, h1, h2⟩ := h
    exact ⟨b, o, xs, rfl, h1.lasts (lasts_letGo H r w), fzs_rel hH hr _ _ h2⟩
  | .nilSlice, v, h => by simp only [fz]; exact Rel.lasts (lasts_letGo H r w) _ _ h
  | .vslice l n, v, h => by
    simp only [Rel, fz] at h ⊢
    obtain ⟨a, cap, rfl, hle, h1⟩ := h
    refine ⟨a, cap, rfl, hle, ?_⟩
    rcases h1 with h1 | ⟨b, o, xs, rfl, h1, h2⟩
    · subst h1; exact .inl rfl
    · exact .inr ⟨b, o, xs, rfl, h1.lasts (lasts_letGo H r w), fzs_rel hH hr _ _ h2⟩
  | .nilMap, v, h => by simp only [fz]; exact Rel.lasts (lasts_letGo H r w) _ _ h
  | .omap x, v, h => by simp only [fz]; exact Rel.lasts (lasts_letGo H r w) _ _ h
  | .nilFunc, v, h => by simp only [fz]; exact Rel.lasts (lasts_letGo H r w) _ _ h
  | .nilIface, v, h => by simp only [fz]; exact Rel.lasts (lasts_letGo H r w) _ _ h
theorem fzs_rel (hH : SimHeap w H) {r : Nat} {cs : List DVal} {e : TypeId} (hr : H r = some (.cells cs e)) : ∀ (ds : List DVal) (vs : List Value), RelL w H ds vs → RelL w (upd H r none) (fzs r cs ds) vs
  | [], vs, h => by simpa [fzs, RelL] using h
  | d :: ds, vs, h => by
    simp only [fzs, RelL] at h ⊢
    obtain ⟨y, ys, rfl, h1, h2⟩ := h
    exact ⟨y, ys, rfl, fz_rel hH hr _ _ h1, fzs_rel hH hr _ _ h2⟩
end

/-- A step of thought on a result. -/
def GhostE (H : DHeap) (v : DVal) (H' : DHeap) (v' : DVal) : Prop := ∀ w, SimHeap w H → SimHeap w H' ∧ (∀ b, H' b ≠ none → H b ≠ none) ∧ ∀ x, Rel w H v x → Rel w H' v' x

theorem GhostE.refl (H : DHeap) (v : DVal) : GhostE H v H v := fun _ h => ⟨h, fun _ h => h, fun _ h => h⟩
theorem GhostE.trans {H H' H'' : DHeap} {v v' v'' : DVal} (h : GhostE H v H' v') (k : GhostE H' v' H'' v'') : GhostE H v H'' v'' := fun w hw => by
  obtain ⟨h1, h2, h3⟩ := h w hw
  obtain ⟨k1, k2, k3⟩ := k w h1
  exact ⟨k1, fun b hb => h2 b (k2 b hb), fun x hx => k3 x (h3 x hx)⟩
theorem GhostE.fz {H : DHeap} {v : DVal} {r : Nat} {cs : List DVal} {e : TypeId} (hr : H r = some (.cells cs e)) : GhostE H v (upd H r none) (fz r cs v) := fun w hw =>
  ⟨hw.letGo r, fun b hb => by simp only [upd] at hb; split at hb <;> simp_all, fun x hx => fz_rel hw hr _ _ hx⟩
theorem GhostE.drop (H : DHeap) (v : DVal) (r : Nat) : GhostE H v (upd H r none) v := fun w hw =>
  ⟨hw.letGo r, fun b hb => by simp only [upd] at hb; split at hb <;> simp_all, fun x hx => Rel.lasts (lasts_letGo H r w) _ _ hx⟩

theorem DFin.ghost {R : DEnd → DHeap → Prop} {v v' : DVal} {H H' : DHeap} (g : GhostE H v H' v') (h : DFin R v' H') : DFin R v H := by
  obtain ⟨v2, H2, k, hR⟩ := h
  exact ⟨v2, H2, g.trans k, hR⟩
/-- Block r is seen as memory that lasts. -/
theorem DFin.fz {R : DEnd → DHeap → Prop} {v : DVal} {H : DHeap} (r : Nat) {cs : List DVal} {e : TypeId} (hr : H r = some (.cells cs e)) (h : DFin R (fz r cs v) (upd H r none)) : DFin R v H := .ghost (.fz hr) h
/-- Block r is let go. -/
theorem DFin.drop {R : DEnd → DHeap → Prop} {v : DVal} {H : DHeap} (r : Nat) (h : DFin R v (upd H r none)) : DFin R v H := .ghost (.drop H v r) h

theorem DCalls.ghost {f : FuncId} {args : List DVal} {H : DHeap} {R R' : DEnd → DHeap → Prop} (h : DCalls P G f args H R) (hr : ∀ e H', R e H' → ∃ v v' H'', e = .ret v ∧ GhostE H' v H'' v' ∧ R' (.ret v') H'') : DCalls P G f args H R' := by
  refine ⟨h.1, fun vs w hv hH hG => (h.2 vs w hv hH hG).mono fun e w' ⟨e', H', r, k1, k2, k3⟩ => ?_⟩
  obtain ⟨v, v', H'', rfl, g, r'⟩ := hr _ _ r
  obtain ⟨g1, g2, g3⟩ := g w' k2
  cases k1 with
  | ret d x hx => exact ⟨.ret v', H'', r', .ret _ _ (g3 x hx), g1, k3.os, k3.tape, k3.output, k3.size, k3.block, fun b hb => k3.own b (g2 b hb), k3.keep, k3.fz⟩

/-- The arguments are seen otherwise ahead of the call. -/
theorem DCalls.pre {f : FuncId} {args args' : List DVal} {H H' : DHeap} {R : DEnd → DHeap → Prop} (g : GhostE H (.tuple args) H' (.tuple args')) (h : DCalls P G f args' H' R) : DCalls P G f args H R := by
  refine ⟨h.1, fun vs w hv hH hG => ?_⟩
  obtain ⟨g1, g2, g3⟩ := g w hH
  have hl : Lasts H w H' w := ⟨fun b i x hb hc => ⟨by
    cases e : H' b with
    | none => rfl
    | some o => exact absurd hb (g2 b (by simp [e])), hc⟩, Nat.le_refl _, fun _ _ => rfl⟩
  have hv' : RelL w H' args' vs := by
    have := g3 (.tuple vs.toArray) (by simp only [Rel]; exact ⟨_, rfl, hv⟩)
    simp only [Rel] at this
    obtain ⟨xs, h1, h2⟩ := this
    cases h1; exact h2
  refine (h.2 vs w hv' g1 (hG.lasts hl)).mono fun e w' ⟨e', H'', r, k1, k2, k3⟩ => ⟨e', H'', r, k1, k2, k3.os, k3.tape, k3.output, k3.size, fun b hb hn => k3.block b hb (by
    cases e : H' b with
    | none => rfl
    | some o => exact absurd hn (g2 b (by simp [e]))), fun b hb => ?_, k3.keep, fun a ha hn => k3.fz a ha (by
    cases e : H' a.block with
    | none => rfl
    | some o => exact absurd hn (g2 a.block (by simp [e])))⟩
  rcases k3.own b hb with k | k
  · exact .inl (g2 b k)
  · exact .inr k
theorem DCalls.fzArgs {f : FuncId} {args : List DVal} {H : DHeap} {R : DEnd → DHeap → Prop} (r : Nat) {cs : List DVal} {e : TypeId} (hr : H r = some (.cells cs e)) (h : DCalls P G f (fzs r cs args) (upd H r none) R) : DCalls P G f args H R :=
  .pre (by have := GhostE.fz (v := .tuple args) hr; simpa only [fz] using this) h

/-- A value that points to nothing. -/
def plain : DVal → Bool
  | .bool _ | .int _ _ | .str _ | .nilPtr | .nilSlice | .nilMap | .nilFunc | .nilIface => true
  | .tuple l => plains l
  | .agg l => plains l
  | _ => false
where plains : List DVal → Bool
  | [] => true
  | d :: ds => plain d && plains ds

mutual
theorem plain_rel {w : World} {H H' : DHeap} : ∀ (d : DVal) (v : Value), plain d = true → Rel w H d v → Rel w H' d v
  | .tuple l, v, hp, h => by
    simp only [plain] at hp
    simp only [Rel] at h ⊢
    obtain ⟨x, rfl, h1⟩ := h
    exact ⟨x, rfl, plains_rel _ _ hp h1⟩
  | .agg l, v, hp, h => by
    simp only [plain] at hp
    simp only [Rel] at h ⊢
    obtain ⟨x, rfl, h1⟩ := h
    exact ⟨x, rfl, plains_rel _ _ hp h1⟩
  | .bool x, v, hp, h => by simpa [Rel] using h
  | .int x y, v, hp, h => by simpa [Rel] using h
  | .str x, v, hp, h => by simpa [Rel] using h
  | .nilPtr, v, hp, h => by simpa [Rel] using h
  | .nilSlice, v, hp, h => by simpa [Rel] using h
  | .nilMap, v, hp, h => by simpa [Rel] using h
  | .nilFunc, v, hp, h => by simpa [Rel] using h
  | .nilIface, v, hp, h => by simpa [Rel] using h
  | .raw _, _, hp, _ => by cases hp
  | .vptr _ _, _, hp, _ => by cases hp
  | .optr _ _, _, hp, _ => by cases hp
  | .vslice _ _, _, hp, _ => by cases hp
  | .oslice _ _ _ _ _, _, hp, _ => by cases hp
  | .omap _, _, hp, _ => by cases hp
  | .func _ _ _, _, hp, _ => by cases hp
  | .iface _ _, _, hp, _ => by cases hp
theorem plains_rel {w : World} {H H' : DHeap} : ∀ (ds : List DVal) (vs : List Value), plain.plains ds = true → RelL w H ds vs → RelL w H' ds vs
  | [], _, _, h => by simpa [RelL] using h
  | d :: ds, vs, hp, h => by
    simp only [plain.plains, Bool.and_eq_true] at hp
    simp only [RelL] at h ⊢
    obtain ⟨y, ys, rfl, h1, h2⟩ := h
    exact ⟨y, ys, rfl, plain_rel d y hp.1 h1, plains_rel ds ys hp.2 h2⟩
end

/-- **A CALL THAT ONLY LOOKS**: it is handed own memory as memory that lasts; its result points to nothing; the caller's own blocks are as they were. -/
theorem DCalls.borrow {f : FuncId} {args args' : List DVal} {H : DHeap} {R : DEnd → DHeap → Prop} (h : DCalls P G f args' h0 R) (hb : ∀ w vs, SimHeap w H → RelL w H args vs → RelL w h0 args' vs) (hG : ∀ g, plain (G g) = true ∨ (∃ r o, G g = .optr r o) ∨ ∀ w, Rel w H (G g) (.pointer (some ⟨g, 0, none⟩)) → Rel w h0 (G g) (.pointer (some ⟨g, 0, none⟩)))
    (hR : ∀ e H2, R e H2 → ∃ v, e = .ret v ∧ plain v = true) : DCalls P G f args H (fun e H2 => (∃ H3, R e H3) ∧ H2 = H) := by
  refine ⟨h.1, fun vs w hv hH hg => ?_⟩
  have hg0 : GOk G w h0 := ⟨fun g => by
    rcases hG g with k | ⟨r, o, k⟩ | k
    · exact plain_rel _ _ k (hg.rel g)
    · have := hg.rel g
      rw [k] at this ⊢
      simpa [Rel] using this
    · exact k w (hg.rel g), hg.exact⟩
  refine (h.2 vs w (hb w vs hH hv) (fun r o hr => by cases hr) hg0).mono fun e w' ⟨e', H', r, k1, k2, k3⟩ => ?_
  obtain ⟨v, rfl, hp⟩ := hR _ _ r
  have hE : Ext H w H w' := ⟨k3.os, k3.tape, k3.output, k3.size, fun b hb _ => k3.block b hb rfl, fun b hb => .inl hb, k3.keep, fun a ha _ => k3.fz a ha rfl⟩
  refine ⟨.ret v, H, ⟨⟨H', r⟩, rfl⟩, ?_, ?_, hE⟩
  · cases k1 with
    | ret d x hx => exact .ret _ _ (plain_rel _ _ hp hx)
  · intro r o ho
    rw [k3.block r (hH.lt (by simp [ho])) rfl]
    exact (hH r o ho).lasts hE.lasts

end
attribute [go_sem] fz.eq_1 fz.eq_2 fz.eq_3 fz.eq_4 fz.eq_5 fz.eq_6 fzs.eq_1 fzs.eq_2
theorem fz_bool (r : Nat) (cs : List DVal) (b : Bool) : fz r cs (.bool b) = .bool b := by simp [fz]
theorem fz_int (r : Nat) (cs : List DVal) (k : IntKind) (n : Int) : fz r cs (.int k n) = .int k n := by simp [fz]
theorem fz_str (r : Nat) (cs : List DVal) (b : List UInt8) : fz r cs (.str b) = .str b := by simp [fz]
theorem fz_nilSlice (r : Nat) (cs : List DVal) : fz r cs .nilSlice = .nilSlice := by simp [fz]
theorem fz_nilPtr (r : Nat) (cs : List DVal) : fz r cs .nilPtr = .nilPtr := by simp [fz]
theorem fz_nilMap (r : Nat) (cs : List DVal) : fz r cs .nilMap = .nilMap := by simp [fz]
theorem fz_nilFunc (r : Nat) (cs : List DVal) : fz r cs .nilFunc = .nilFunc := by simp [fz]
theorem fz_nilIface (r : Nat) (cs : List DVal) : fz r cs .nilIface = .nilIface := by simp [fz]
theorem fz_vslice (r : Nat) (cs : List DVal) (l : List DVal) (n : Nat) : fz r cs (.vslice l n) = .vslice (fzs r cs l) n := by simp [fz]
theorem fz_vptr (r : Nat) (cs : List DVal) (l : List DVal) (n : Nat) : fz r cs (.vptr l n) = .vptr (fzs r cs l) n := by simp [fz]
theorem fzs_map {α : Type} (r : Nat) (cs : List DVal) (f : α → DVal) (h : ∀ x, fz r cs (f x) = f x) (l : List α) : fzs r cs (l.map f) = l.map f := by
  induction l with
  | nil => simp [fzs]
  | cons x l ih => simp [fzs, h, ih]
theorem fzs_ints (r : Nat) (cs : List DVal) (l : List Int) : fzs r cs (l.map dI) = l.map dI := fzs_map r cs dI (fun _ => by simp [fz]) l
theorem fzs_intss (r : Nat) (cs : List DVal) (l : List (List Int)) : fzs r cs (l.map dIs) = l.map dIs := fzs_map r cs dIs (fun x => by simp [dIs, fz_vslice, fzs_ints]) l
attribute [go_sem] fzs_ints fzs_intss
theorem upd_undo {H : DHeap} {r : Nat} {o : DObj} (h : H r = none) : upd (upd H r (some o)) r none = H := upd_none_self h _
attribute [go_sem] fz_bool fz_int fz_str fz_nilSlice fz_nilPtr fz_nilMap fz_nilFunc fz_nilIface fz_vslice fz_vptr
end Go.Dl

-- THE DATA LEVEL, PART 8: loops over iterators, ready for use.
namespace Go.Dl
open Go Go.RowKit

theorem over_upd (Hi X : DHeap) (r r' : Nat) (o : DObj) : over Hi (upd X r (some o)) r' = if r' = r then some o else over Hi X r' := by
  by_cases e : r' = r <;> simp [over, upd, e]
theorem dbind_nil (env : Nat → DVal) (ds : List DVal) : dbind env [] ds = env := by cases ds <;> rfl
attribute [go_sem] over_upd upd_over over_h0 DThen.eq_1 DBodyQ.eq_1 DBodyQ.eq_2 DBodyQ.eq_3 DBodyQ.eq_4 dbind.eq_1 dbind_nil

theorem upd_upd {α : Type} (f : Nat → α) (r : Nat) (a b : α) : upd (upd f r a) r b = upd f r b := by
  funext i; simp only [upd]; split <;> rfl
/-- The store into block r1, told first. -/
theorem upd_swap {α : Type} {r1 r2 : Nat} (h : r1 ≠ r2) (f : Nat → α) (a b : α) : upd (upd f r2 b) r1 a = upd (upd f r1 a) r2 b := by
  funext i; simp only [upd]; by_cases e1 : i = r1 <;> by_cases e2 : i = r2 <;> simp_all
theorem splice_zero (xs ys : List DVal) : splice xs 0 ys = ys ++ xs.drop ys.length := by simp [splice]
theorem splice_succ (x : DVal) (xs ys : List DVal) (n : Nat) : splice (x :: xs) (n + 1) ys = x :: splice xs n ys := by
  simp [splice, Nat.add_right_comm]
attribute [go_sem] upd_upd splice_zero splice_succ

theorem Disj.st {Hi X : DHeap} (h : Disj Hi X) {r : Nat} {ob : DObj} (hr : X r = some ob) (o : Option DObj) : Disj Hi (upd X r o) := h.hi (h r (by simp [hr])) o

theorem DCalls.fzA {P : Program} {G : Nat → DVal} {f : FuncId} {args : List DVal} {H : DHeap} {R : DEnd → DHeap → Prop} (r : Nat) {cs : List DVal} {e : TypeId} (hr : H r = none) (h : DCalls P G f (fzs r cs args) H R) : DCalls P G f args (upd H r (some (.cells cs e))) R :=
  DCalls.fzArgs r (upd_same _ _ _) (by rw [upd_none_self hr]; exact h)
theorem DFin.fzA {R : DEnd → DHeap → Prop} {v : DVal} {H : DHeap} (r : Nat) {cs : List DVal} {e : TypeId} (hr : H r = none) (h : DFin R (Dl.fz r cs v) H) : DFin R v (upd H r (some (.cells cs e))) :=
  DFin.fz r (upd_same _ _ _) (by rw [upd_none_self hr]; exact h)
theorem DFin.dropA {R : DEnd → DHeap → Prop} {v : DVal} {H : DHeap} (r : Nat) {o : Option DObj} (hr : H r = none) (h : DFin R v H) : DFin R v (upd H r o) :=
  DFin.drop r (by rw [upd_none_self hr]; exact h)

theorem lasts_over (H X : DHeap) (w : World) : Lasts (over H X) w H w :=
  ⟨fun b i x hb hc => ⟨(over_eq_none.1 hb).1, hc⟩, Nat.le_refl _, fun _ _ => rfl⟩
theorem GhostE.over {H X : DHeap} (d : Disj H X) (v : DVal) : GhostE (over H X) v H v := fun w hw =>
  ⟨fun r o ho => by
    have hx : X r = none := d.x (by simp [ho])
    exact (hw r o (by rw [over_hi hx]; exact ho)).lasts (lasts_over H X w), fun b hb e => hb (over_eq_none.1 e).1, fun x hx => Rel.lasts (lasts_over H X w) _ _ hx⟩
/-- The part X is let go. -/
theorem DFin.over {R : DEnd → DHeap → Prop} {v : DVal} {H X : DHeap} (d : Disj H X) (h : R (.ret v) H) : DFin R v (over H X) := .ghost (.over d v) (.refl h)

section
variable {P : Program} {G : Nat → DVal} {N : Nat} {Q : DExit → DS → Prop}

/-- A region whose order is drawn, by a plan. -/
theorem dwp_draws {id : Nat} {ops : List Oper} {s : DS} (hm : P.follows .mixedOrders = true) (p : Plan) (hp : (ops.all (operOk N) && cover ops [] p && planOk ops p []) = true) (h : dplan P G ops (QP Q) p s) : dwp P G N (.region id ops.toArray true) Q s :=
  dwp_any (N := ⟨N, 0⟩) hm p (by simpa using hp) (by simpa using h)

/-- A loop over an iterator that has no memory of its own. -/
theorem dwp_range {g : Operand} {ps : List Tmp} {asg body : Code} {s : DS} (gf : FuncId) (captured : List DVal) (L : List (List DVal))
    (hit : DIter P G gf captured h0 L) (hg : dev G s.env g = .func (.func gf) [] captured)
    (hok : (opdOk N g && codeOk N asg && codeOk N body && flat asg && flat body) = true) (hL : ∀ x ∈ L, x.length = ps.length)
    (Hi X : DHeap) (hs : s.heap = over Hi X) (d1 : Disj Hi X)
    (I : Nat → DHeap → Prop) (Ix : Code → DHeap → Prop) (i0 : I 0 X)
    (hbody : ∀ k x Hi X, Disj Hi X → L[k]? = some x → I k X → dwp P G N asg (DThen (dwp P G N body (DBodyQ Hi (I (k + 1)) Ix))) ⟨dbind s.env ps x, over Hi X⟩)
    (hdone : ∀ X, Disj Hi X → I L.length X → Q .normal ⟨s.env, over Hi X⟩)
    (hexit : ∀ c X, Disj Hi X → Ix c X → DJump Q c ⟨s.env, over Hi X⟩) : dwp P G N (.rangeFunc g ps.toArray asg body) Q s := by
  simp only [dwp]
  exact dwp0_range hg hok hit (by simpa using hL) Hi X (by rw [hs, over_h0]) d1 (Disj.h0 _) (fun r hr => rfl) I Ix i0 (fun k x Hi X a b c => by simpa using hbody k x Hi X a b c) hdone hexit

end
end Go.Dl

-- THE DATA LEVEL, PART 9: slices that are built up; plain lists seen as slices.
namespace Go.Dl
open Go Go.RowKit

/-- The call returns v; nothing else turns. -/
abbrev DRet (v : DVal) (H : DHeap) : DEnd → DHeap → Prop := fun e H' => e = .ret v ∧ H' = H

/-- v is nil (and then there are no cells), or a slice over a whole block of the call's own, of n elements, whose cells are cs; H' is H with that block. -/
def OwnA (H : DHeap) (e : TypeId) (size n : Nat) (cs : List DVal) (v : DVal) (H' : DHeap) : Prop :=
  (n = 0 ∧ cs = [] ∧ v = .nilSlice ∧ H' = H) ∨ ∃ r, H r = none ∧ cs.length = n * size ∧ v = .oslice size r 0 n n ∧ H' = upd H r (some (.cells cs e))

section
variable {P : Program} {G : Nat → DVal} {Q : DExit → DS → Prop}

theorem OwnA.nil (H : DHeap) (e : TypeId) (size : Nat) : OwnA H e size 0 [] .nilSlice H := .inl ⟨rfl, rfl, rfl, rfl⟩

theorem upd_self {α : Type} {f : Nat → α} {r : Nat} {x : α} (h : f r = x) : upd f r x = f := by
  funext i; simp only [upd]; split
  · rename_i e; rw [e, h]
  · rfl

theorem dAppendO_in {e : TypeId} {size bytes r off len lo n : Nat} {news : List DVal} {dst : Option Nat} {K : DK} {s : DS} {cs : List DVal} (h : len + n ≤ lo) :
    dAppendO e size bytes r off len lo n news dst K s (some (.cells cs e)) = (off + (len + n) * size ≤ cs.length ∧
        K ⟨updO s.env dst (.oslice size r off (len + n) lo), upd s.heap r (some (.cells (splice cs (off + len * size) news) e))⟩) := by
  simp only [dAppendO, true_and, eq_iff_iff]
  exact ⟨fun k => k.1 h, fun k => ⟨fun _ => k, fun hn => (hn h).elim⟩⟩

theorem dAppendO_out {e : TypeId} {size bytes r len lo n : Nat} {news : List DVal} {dst : Option Nat} {K : DK} {s : DS} {cs : List DVal} (hle : len ≤ lo) (h : lo < len + n) :
    dAppendO e size bytes r 0 len lo n news dst K s (some (.cells cs e)) = (len * size ≤ cs.length ∧ (len + n) * bytes ≤ 35184372088832 ∧ ∀ r', upd s.heap r none r' = none →
        K ⟨updO s.env dst (.oslice size r' 0 (len + n) (len + n)), upd (upd s.heap r none) r' (some (.cells (cs.take (len * size) ++ news) e))⟩) := by
  simp only [dAppendO, true_and, eq_iff_iff, hle, true_or, if_true]
  have hn : ¬ len + n ≤ lo := by omega
  refine ⟨fun k => ?_, fun k => ⟨fun hh => (hn hh).elim, fun _ => ?_⟩⟩
  · obtain ⟨k1, k2, k3⟩ := k.2 hn
    refine ⟨by omega, k2, fun r' hr => ?_⟩
    have := k3 r' [] hr (fun _ => rfl)
    simpa using this
  · obtain ⟨k1, k2, k3⟩ := k
    refine ⟨by omega, k2, fun r' pre hr hp => ?_⟩
    have hpre := hp trivial
    subst hpre
    have := k3 r' hr
    simpa using this

/-- append where less room is known than there are elements: the old block stays (longer, if it grew in place). -/
theorem dAppendO_keep {e : TypeId} {size bytes r len lo n : Nat} {news : List DVal} {dst : Option Nat} {K : DK} {s : DS} {cs : List DVal} (h : lo < len) (hl : len * size ≤ cs.length) (hb : (len + n) * bytes ≤ 35184372088832)
    (hK : ∀ r', r' = r ∨ s.heap r' = none → K ⟨updO s.env dst (.oslice size r' 0 (len + n) (len + n)), upd s.heap r' (some (.cells (cs.take (len * size) ++ news) e))⟩) : dAppendO e size bytes r 0 len lo n news dst K s (some (.cells cs e)) := by
  simp only [dAppendO, true_and]
  have hn : ¬ len + n ≤ lo := by omega
  refine ⟨fun k => (hn k).elim, fun _ => ⟨by omega, hb, fun r' pre hr hp => ?_⟩⟩
  have hpre := hp trivial
  subst hpre
  by_cases e1 : r' = r
  · subst e1
    have := hK r' (.inl rfl)
    rw [if_pos (.inr rfl), upd_upd]
    simpa using this
  · have := hK r' (.inr (by simpa [upd, e1] using hr))
    rw [if_neg (by omega)]
    simpa using this

/-- **append** to a slice that is being built up. -/
theorem OwnA.append {H H0 : DHeap} {e : TypeId} {size bytes n m : Nat} {cs news : List DVal} {v : DVal} {dst : Option Nat} {K : DK} {env : Nat → DVal} (hv : OwnA H e size n cs v H0) (hm : news.length = m * size) (hb : (n + m) * bytes ≤ 35184372088832)
    (hK : ∀ v' H', OwnA H e size (n + m) (cs ++ news) v' H' → K ⟨updO env dst v', H'⟩) : dAppendTo e size bytes m news dst v K ⟨env, H0⟩ := by
  rcases hv with ⟨rfl, rfl, rfl, rfl⟩ | ⟨r, hr, hl, rfl, rfl⟩
  · simp only [dAppendTo]
    refine ⟨fun h0 => ?_, fun h0 => ⟨by simpa using hb, fun r hr => ?_⟩⟩
    · subst h0
      have : news = [] := List.length_eq_zero_iff.1 (by omega)
      subst this
      exact hK _ _ (.inl ⟨rfl, rfl, rfl, rfl⟩)
    · refine hK _ _ (.inr ⟨r, hr, by simpa using hm, by simp, by simp⟩)
  · simp only [dAppendTo, true_and]
    rw [upd_same]
    by_cases h0 : m = 0
    · subst h0
      have : news = [] := List.length_eq_zero_iff.1 (by omega)
      subst this
      rw [dAppendO_in (by omega)]
      refine ⟨by simp [hl], ?_⟩
      have := hK (.oslice size r 0 (n + 0) n) (upd H r (some (.cells cs e))) (.inr ⟨r, hr, by simpa using hl, by simp, by simp⟩)
      simp only [splice, List.length_nil, List.append_nil, Nat.add_zero, List.take_append_drop, upd_upd]
      simpa using this
    · rw [dAppendO_out (by omega) (by omega)]
      refine ⟨by omega, hb, fun r' hr' => ?_⟩
      have hu : upd (upd H r (some (.cells cs e))) r none = H := upd_none_self hr _
      simp only [hu] at hr' ⊢
      refine hK _ _ (.inr ⟨r', hr', ?_, rfl, ?_⟩)
      · simp [hl, hm, Nat.add_mul]
      · rw [List.take_of_length_le (by omega)]

theorem GhostE.slice {H : DHeap} {e : TypeId} {size n lo : Nat} {cs rest : List DVal} {r : Nat} (hr : H r = none) (hl : cs.length = n * size) : GhostE (upd H r (some (.cells (cs ++ rest) e))) (.oslice size r 0 n lo) H (.vslice cs n) := by
  have := GhostE.fz (v := .oslice size r 0 n lo) (upd_same H r (some (.cells (cs ++ rest) e)))
  rw [upd_none_self hr] at this
  simp only [Dl.fz, if_pos, List.drop_zero] at this
  rw [ List.take_append_of_le_length (by omega), List.take_of_length_le (by omega)] at this
  exact this

/-- The same, with spare room behind. -/
def OwnB (H : DHeap) (e : TypeId) (size n : Nat) (cs : List DVal) (v : DVal) (H' : DHeap) : Prop :=
  (n = 0 ∧ cs = [] ∧ v = .nilSlice ∧ H' = H) ∨ ∃ r lo rest, H r = none ∧ cs.length = n * size ∧ v = .oslice size r 0 n lo ∧ H' = upd H r (some (.cells (cs ++ rest) e))
theorem OwnA.b {H H0 : DHeap} {e : TypeId} {size n : Nat} {cs : List DVal} {v : DVal} (hv : OwnA H e size n cs v H0) : OwnB H e size n cs v H0 := by
  rcases hv with h | ⟨r, hr, hl, h1, h2⟩
  · exact .inl h
  · exact .inr ⟨r, n, [], hr, hl, h1, by simpa using h2⟩
theorem OwnB.ghost {H H0 : DHeap} {e : TypeId} {size n : Nat} {cs : List DVal} {v : DVal} (hv : OwnB H e size n cs v H0) : GhostE H0 v H (.vslice cs n) := by
  rcases hv with ⟨rfl, rfl, rfl, rfl⟩ | ⟨r, lo, rest, hr, hl, rfl, rfl⟩
  · intro w hw
    refine ⟨hw, fun _ h => h, fun x hx => ?_⟩
    simp only [Rel] at hx ⊢
    exact ⟨none, 0, hx, Nat.le_refl _, .inl (by simp)⟩
  · exact .slice hr hl
theorem DCalls.frozenB {f : FuncId} {args : List DVal} {H : DHeap} {e : TypeId} {size n : Nat} {cs : List DVal} (h : DCalls P G f args H fun x H' => ∃ v, x = .ret v ∧ OwnB H e size n cs v H') : DCalls P G f args H (DRet (.vslice cs n) H) :=
  h.ghost fun x H' ⟨v, h1, h2⟩ => ⟨v, _, H, h1, h2.ghost, rfl, rfl⟩

/-- Seen as memory that lasts. -/
theorem OwnA.ghost {H H0 : DHeap} {e : TypeId} {size n : Nat} {cs : List DVal} {v : DVal} (hv : OwnA H e size n cs v H0) : GhostE H0 v H (.vslice cs n) := by
  rcases hv with ⟨rfl, rfl, rfl, rfl⟩ | ⟨r, hr, hl, rfl, rfl⟩
  · intro w hw
    refine ⟨hw, fun _ h => h, fun x hx => ?_⟩
    simp only [Rel] at hx ⊢
    exact ⟨none, 0, hx, Nat.le_refl _, .inl (by simp)⟩
  · have := GhostE.fz (v := .oslice size r 0 n n) (upd_same H r (some (.cells cs e)))
    rw [upd_none_self hr] at this
    simp only [fz, if_pos, List.drop_zero] at this
    rw [List.take_of_length_le (by omega)] at this
    exact this

theorem OwnA.fin {R : DEnd → DHeap → Prop} {H H0 : DHeap} {e : TypeId} {size n : Nat} {cs : List DVal} {v : DVal} (hv : OwnA H e size n cs v H0) (h : R (.ret (.vslice cs n)) H) : DFin R v H0 := .ghost hv.ghost (.refl h)

/-- A result that is the call's own, seen as memory that lasts. -/
theorem DCalls.frozen {f : FuncId} {args : List DVal} {H : DHeap} {e : TypeId} {size n : Nat} {cs : List DVal} (h : DCalls P G f args H fun x H' => ∃ v, x = .ret v ∧ OwnA H e size n cs v H') : DCalls P G f args H (DRet (.vslice cs n) H) :=
  h.ghost fun x H' ⟨v, h1, h2⟩ => ⟨v, _, H, h1, h2.ghost, rfl, rfl⟩

end

/-- Whatever d describes, d' describes. -/
def DLe (d d' : DVal) : Prop := ∀ (w : World) (H : DHeap) (x : Value), Rel w H d x → Rel w H d' x
def DLes (ds ds' : List DVal) : Prop := ∀ (w : World) (H : DHeap) (x : List Value), RelL w H ds x → RelL w H ds' x
theorem DLe.refl (d : DVal) : DLe d d := fun _ _ _ h => h
theorem DLes.nil : DLes [] [] := fun _ _ _ h => h
theorem DLes.refl (ds : List DVal) : DLes ds ds := fun _ _ _ h => h
theorem DLes.cons {d d' : DVal} {ds ds' : List DVal} (h : DLe d d') (k : DLes ds ds') : DLes (d :: ds) (d' :: ds') := fun w H x hx => by
  simp only [RelL] at hx ⊢
  obtain ⟨y, ys, rfl, h1, h2⟩ := hx
  exact ⟨y, ys, rfl, h _ _ _ h1, k _ _ _ h2⟩
theorem DLe.nil : DLe .nilSlice (.vslice [] 0) := fun w H x hx => by
  simp only [Rel] at hx ⊢
  exact ⟨none, 0, hx, Nat.le_refl _, .inl (by simp)⟩
theorem DLe.vslice {cs cs' : List DVal} (n : Nat) (h : DLes cs cs') : DLe (.vslice cs n) (.vslice cs' n) := fun w H x hx => by
  simp only [Rel] at hx ⊢
  obtain ⟨a, cap, rfl, hle, h1⟩ := hx
  refine ⟨a, cap, rfl, hle, ?_⟩
  rcases h1 with rfl | ⟨b, o, xs, rfl, h1, h2⟩
  · have := h w H [] (by simp [RelL])
    cases cs' with
    | nil => exact .inl rfl
    | cons c cs' => simp [RelL] at this
  · exact .inr ⟨b, o, xs, rfl, h1, h _ _ _ h2⟩
theorem DLe.tuple {cs cs' : List DVal} (h : DLes cs cs') : DLe (.tuple cs) (.tuple cs') := fun w H x hx => by
  simp only [Rel] at hx ⊢
  obtain ⟨xs, rfl, h1⟩ := hx
  exact ⟨xs, rfl, h _ _ _ h1⟩
theorem DLe.agg {cs cs' : List DVal} (h : DLes cs cs') : DLe (.agg cs) (.agg cs') := fun w H x hx => by
  simp only [Rel] at hx ⊢
  obtain ⟨xs, rfl, h1⟩ := hx
  exact ⟨xs, rfl, h _ _ _ h1⟩
theorem DLes.nils (n : Nat) : DLes (List.replicate n .nilSlice) (List.replicate n (.vslice [] 0)) := by
  induction n with
  | zero => exact DLes.nil
  | succ n ih => simp only [List.replicate_succ]; exact .cons .nil ih
theorem DFin.le {R : DEnd → DHeap → Prop} {v v' : DVal} {H : DHeap} (g : DLe v v') (h : DFin R v' H) : DFin R v H := .ghost (fun w hw => ⟨hw, fun _ h => h, fun x hx => g _ _ _ hx⟩) h
theorem DCalls.le {P : Program} {G : Nat → DVal} {f : FuncId} {args : List DVal} {H : DHeap} {v v' : DVal} (g : DLe v v') (h : DCalls P G f args H (DRet v H)) : DCalls P G f args H (DRet v' H) :=
  h.ghost fun x H' ⟨h1, h2⟩ => ⟨v, v', H, h1, fun w hw => by rw [h2] at hw ⊢; exact ⟨hw, fun _ h => h, fun x hx => g _ _ _ hx⟩, rfl, rfl⟩

/-- Block r is seen as memory that lasts, in the slots and in block ro. -/
theorem GhostS.fz2 {G : Nat → DVal} {s : DS} {r ro : Nat} {cs cso : List DVal} {e eo : TypeId} (hr : s.heap r = some (.cells cs e)) (ho : s.heap ro = some (.cells cso eo)) (hne : ro ≠ r) :
    GhostS G s ⟨fun i => Dl.fz r cs (s.env i), upd (upd s.heap r none) ro (some (.cells (fzs r cs cso) eo))⟩ := by
  intro w hH hG
  have hl1 := lasts_letGo s.heap r w
  have hl2 : Lasts (upd s.heap r none) w (upd (upd s.heap r none) ro (some (.cells (fzs r cs cso) eo))) w := by
    refine ⟨fun b i x hb hc => ⟨?_, hc⟩, Nat.le_refl _, fun _ _ => rfl⟩
    by_cases e : b = ro
    · subst e; simp only [upd, if_neg hne] at hb; rw [ho] at hb; cases hb
    · simp only [upd, if_neg e] at hb ⊢; exact hb
  refine ⟨?_, ?_, (hG.lasts hl1).lasts hl2, fun i x hx => (fz_rel hH hr _ _ hx).lasts hl2⟩
  · intro b o hb
    by_cases e : b = ro
    · subst e
      simp only [upd, if_pos] at hb; cases hb
      obtain ⟨xs, c, fz', h1, h2, h3, h4⟩ := hH _ _ ho
      exact ⟨xs, c, fz', h1, h2, (fzs_rel hH hr _ _ h3).lasts hl2, h4⟩
    · simp only [upd, if_neg e] at hb
      split at hb
      · cases hb
      · exact ((hH b o hb).lasts hl1).lasts hl2
  · intro b hb
    by_cases e : b = ro
    · subst e; rw [ho]; simp
    · simp only [upd, if_neg e] at hb
      split at hb
      · exact absurd rfl hb
      · exact hb

/-- Another block beside it. -/
theorem OwnA.frame {H H' : DHeap} {e : TypeId} {size n : Nat} {cs : List DVal} {v : DVal} (h : OwnA H e size n cs v H') {r : Nat} (hr : H' r = none) (o : DObj) : OwnA (upd H r (some o)) e size n cs v (upd H' r (some o)) ∧ H r = none := by
  rcases h with ⟨a, b, c, rfl⟩ | ⟨r0, a, b, c, rfl⟩
  · exact ⟨.inl ⟨a, b, c, rfl⟩, hr⟩
  · rw [upd_eq_none] at hr
    exact ⟨.inr ⟨r0, by simp [upd, hr, a], b, c, upd_swap hr.1 _ _ _⟩, hr.2.2⟩
theorem OwnA.unframe {H H' : DHeap} {e : TypeId} {size n : Nat} {cs : List DVal} {v : DVal} {r : Nat} {o : DObj} (h : OwnA (upd H r (some o)) e size n cs v H') (hr : H r = none) : OwnA H e size n cs v (upd H' r none) := by
  rcases h with ⟨a, b, c, rfl⟩ | ⟨r0, a, b, c, rfl⟩
  · exact .inl ⟨a, b, c, upd_none_self hr _⟩
  · rw [upd_eq_none] at a
    refine .inr ⟨r0, a.2.2, b, c, ?_⟩
    rw [upd_swap a.2.1, upd_none_self hr]
theorem GhostS.drop {G : Nat → DVal} (s : DS) (r : Nat) : GhostS G s ⟨s.env, upd s.heap r none⟩ := fun w hH hG =>
  ⟨hH.letGo r, fun b hb => by simp only [upd] at hb; split at hb <;> simp_all, hG.lasts (lasts_letGo _ r w), fun i x hx => Rel.lasts (lasts_letGo _ r w) _ _ hx⟩
theorem OwnA.ghostT {H H0 : DHeap} {e : TypeId} {size n : Nat} {cs : List DVal} {v : DVal} (hv : OwnA H e size n cs v H0) {ds : List DVal} (hd : ∀ r cs, fzs r cs ds = ds) : GhostE H0 (.tuple (v :: ds)) H (.tuple (.vslice cs n :: ds)) := by
  rcases hv with ⟨rfl, rfl, rfl, rfl⟩ | ⟨r, hr, hl, rfl, rfl⟩
  · exact fun w hw => ⟨hw, fun _ h => h, fun x hx => DLe.tuple (.cons .nil (.refl _)) _ _ _ hx⟩
  · have := GhostE.fz (v := .tuple (.oslice size r 0 n n :: ds)) (upd_same H r (some (.cells cs e)))
    rw [upd_none_self hr] at this
    simp only [Dl.fz, fzs, if_pos, List.drop_zero, hd] at this
    rw [List.take_of_length_le (by omega)] at this
    exact this

theorem GhostS.trans {G : Nat → DVal} {s s' s'' : DS} (h : GhostS G s s') (k : GhostS G s' s'') : GhostS G s s'' := fun w hH hG => by
  obtain ⟨h1, h2, h3, h4⟩ := h w hH hG
  obtain ⟨k1, k2, k3, k4⟩ := k w h1 h3
  exact ⟨k1, fun b hb => h2 b (k2 b hb), k3, fun i x hx => k4 i x (h4 i x hx)⟩

/-- A slice that has got a slice of the call's own (block rx) by way of block rc: both are let go, the new element is seen as memory that lasts. -/
theorem OwnA.settle {G : Nat → DVal} {H H' : DHeap} {e ex : TypeId} {k n lo : Nat} {cs cx : List DVal} {v : DVal} {rx rc : Nat} {oc : DObj} (h : OwnA (upd (upd H rx (some (.cells cx ex))) rc (some oc)) e 1 (k + 1) (cs ++ [.oslice 1 rx 0 n lo]) v H')
    (hx : H rx = none) (hc : H rc = none) (hne : rc ≠ rx) (hcs : fzs rx cx cs = cs) (hn : cx.length = n) :
    ∃ H'', (∀ env, GhostS G ⟨env, H'⟩ ⟨fun i => Dl.fz rx cx (env i), H''⟩) ∧ OwnA H e 1 (k + 1) (cs ++ [.vslice cx n]) v H'' ∧ Dl.fz rx cx v = v := by
  rcases h with ⟨a, _⟩ | ⟨ro, a, b, rfl, rfl⟩
  · omega
  · rw [upd_eq_none] at a
    obtain ⟨a1, a2, a3⟩ := a
    rw [upd_eq_none] at a3
    obtain ⟨a4, a5, a6⟩ := a3
    have hfz : fzs rx cx (cs ++ [.oslice 1 rx 0 n lo]) = cs ++ [.vslice cx n] := by
      have happ : ∀ (l m : List DVal), fzs rx cx (l ++ m) = fzs rx cx l ++ fzs rx cx m := fun l m => by
        induction l with
        | nil => simp [fzs]
        | cons d l ih => simp [fzs, ih]
      rw [happ, hcs]
      simp only [fzs, Dl.fz, if_pos, List.drop_zero, Nat.mul_one]
      rw [List.take_of_length_le (by omega)]
    refine ⟨upd (upd (upd (upd (upd (upd H rx (some (.cells cx ex))) rc (some oc)) ro (some (.cells (cs ++ [.oslice 1 rx 0 n lo]) e))) rx none) ro (some (.cells (cs ++ [.vslice cx n]) e))) rc none, fun env => ?_, ?_, ?_⟩
    · refine GhostS.trans (GhostS.fz2 (r := rx) (ro := ro) (cs := cx) (cso := cs ++ [.oslice 1 rx 0 n lo]) (e := ex) (eo := e) (by simp [upd, a5, hne.symm]) (by simp [upd]) a4) ?_
      rw [hfz]
      exact GhostS.drop _ rc
    · refine .inr ⟨ro, a6, by simp at b ⊢; omega, rfl, ?_⟩
      funext i
      simp only [upd]
      by_cases e1 : i = rc
      · subst e1; simp [hc, a2]
      · by_cases e2 : i = ro
        · subst e2; simp [a1]
        · by_cases e3 : i = rx
          · subst e3; simp [e1, e2, hx]
          · simp [e1, e2, e3]
    · simp only [Dl.fz, if_neg a4]

theorem sub_none {H H' : DHeap} (h : ∀ r o, H' r = some o → H r = some o) {b : Nat} (hb : H b = none) : H' b = none := by
  cases e : H' b with
  | none => rfl
  | some o => rw [h b o e] at hb; cases hb
theorem lasts_sub {H H' : DHeap} (h : ∀ r o, H' r = some o → H r = some o) (w : World) : Lasts H w H' w :=
  ⟨fun b i x hb hc => ⟨sub_none h hb, hc⟩, Nat.le_refl _, fun _ _ => rfl⟩
theorem GhostE.sub {H H' : DHeap} (h : ∀ r o, H' r = some o → H r = some o) (v : DVal) : GhostE H v H' v := fun w hw =>
  ⟨fun r o ho => (hw r o (h r o ho)).lasts (lasts_sub h w), fun b hb e => hb (sub_none h e), fun x hx => Rel.lasts (lasts_sub h w) _ _ hx⟩
/-- Some blocks are let go. -/
theorem DFin.sub {R : DEnd → DHeap → Prop} {v : DVal} {H H' : DHeap} (h : ∀ r o, H' r = some o → H r = some o) (k : DFin R v H') : DFin R v H := .ghost (.sub h v) k
theorem GhostS.sub {G : Nat → DVal} {s : DS} {H' : DHeap} (h : ∀ r o, H' r = some o → s.heap r = some o) : GhostS G s ⟨s.env, H'⟩ := fun w hH hG =>
  ⟨fun r o ho => (hH r o (h r o ho)).lasts (lasts_sub h w), fun b hb e => hb (sub_none h e), hG.lasts (lasts_sub h w), fun i x hx => Rel.lasts (lasts_sub h w) _ _ hx⟩
theorem none_ne {α : Type} {H : Nat → Option α} {a b : Nat} {o : α} (ha : H a = none) (hb : H b = some o) : b ≠ a := fun e => by rw [e, ha] at hb; cases hb

theorem fzs_append (r : Nat) (cs : List DVal) (l m : List DVal) : fzs r cs (l ++ m) = fzs r cs l ++ fzs r cs m := by
  induction l with
  | nil => simp [fzs]
  | cons d l ih => simp [fzs, ih]
theorem DLes.append {a a' b b' : List DVal} (h : DLes a a') (k : DLes b b') : DLes (a ++ b) (a' ++ b') := fun w H x hx => by
  have hl := hx.length
  have e : x = x.take a.length ++ x.drop a.length := (List.take_append_drop _ _).symm
  have h1 := hx.take a.length
  have h2 := hx.drop a.length
  rw [List.take_left] at h1
  rw [List.drop_left] at h2
  rw [e]
  exact (h _ _ _ h1).append (k _ _ _ h2)
/-- Among arguments. -/
theorem OwnA.ghostA {H H0 : DHeap} {e : TypeId} {size n : Nat} {cs : List DVal} {v : DVal} (hv : OwnA H e size n cs v H0) {ds ds' : List DVal} (hd : ∀ r cs, fzs r cs ds = ds) (hd' : ∀ r cs, fzs r cs ds' = ds') : GhostE H0 (.tuple (ds ++ v :: ds')) H (.tuple (ds ++ .vslice cs n :: ds')) := by
  rcases hv with ⟨rfl, rfl, rfl, rfl⟩ | ⟨r, hr, hl, rfl, rfl⟩
  · exact fun w hw => ⟨hw, fun _ h => h, fun x hx => DLe.tuple (DLes.append (.refl _) (.cons .nil (.refl _))) _ _ _ hx⟩
  · have := GhostE.fz (v := .tuple (ds ++ .oslice size r 0 n n :: ds')) (upd_same H r (some (.cells cs e)))
    rw [upd_none_self hr] at this
    simp only [Dl.fz, fzs_append, fzs, if_pos, List.drop_zero, hd, hd'] at this
    rw [List.take_of_length_le (by omega)] at this
    exact this

theorem DCalls.leArgs {P : Program} {G : Nat → DVal} {f : FuncId} {args args' : List DVal} {H : DHeap} {R : DEnd → DHeap → Prop} (g : DLes args args') (h : DCalls P G f args' H R) : DCalls P G f args H R :=
  .pre (fun w hw => ⟨hw, fun _ h => h, fun x hx => DLe.tuple g _ _ _ hx⟩) h

theorem one_all {α : Type} (f : α → DVal) (h : ∀ x, (f x).one = true) (l : List α) : (l.map f).all (fun d => d.one) = true := by
  induction l with
  | nil => rfl
  | cons x l ih => simp [h, ih]
theorem ints_one (l : List Int) : (l.map dI).all (fun d => d.one) = true := one_all dI (fun _ => rfl) l
theorem intss_one (l : List (List Int)) : (l.map dIs).all (fun d => d.one) = true := one_all dIs (fun _ => rfl) l
theorem take_map_len {α : Type} (f : α → DVal) (l : List α) : (l.map f).take l.length = l.map f := by
  rw [List.take_of_length_le (by simp)]
theorem optAll_some {α : Type} (p : α → Bool) (x : α) : Option.all p (some x) = p x := rfl
attribute [go_sem] dAppendO_in dAppendO_out ints_one intss_one take_map_len optAll_some
end Go.Dl

-- THE READING, PART G: the package's variables that a row lists ('laid'), as the data level sees them.
namespace Go.Dl
open Go Go.RowKit

/-- Data of numbers, strings and truth values alone. -/
def litsB : DataW Unit → Bool
  | .lit (.bool _) => true
  | .lit (.int _ _) => true
  | .lit (.string _) => true
  | .agg ds => litsBs ds
  | _ => false
where litsBs : List (DataW Unit) → Bool
  | [] => true
  | d :: ds => litsB d && litsBs ds
def litCells : DataW Unit → List Value
  | .lit (.bool b) => [.bool b]
  | .lit (.int k n) => [.int k n]
  | .lit (.string s) => [.string ⟨⟨s⟩⟩]
  | .agg ds => litCellss ds
  | _ => []
where litCellss : List (DataW Unit) → List Value
  | [] => []
  | d :: ds => litCells d ++ litCellss ds
theorem litsBs_iff {ds : List (DataW Unit)} : litsB.litsBs ds = true ↔ ∀ d ∈ ds, litsB d = true := by
  induction ds with
  | nil => simp [litsB.litsBs]
  | cons d ds ih => simp [litsB.litsBs, ih]
theorem litCellss_eq (ds : List (DataW Unit)) : litCells.litCellss ds = ds.flatMap litCells := by
  induction ds with
  | nil => rfl
  | cons d ds ih => simp [litCells.litCellss, ih]

/-- Cells are the pieces that lie one behind the other. -/
theorem pieces {α : Type} (cs : List α) (off size : Nat → Nat) : ∀ (n : Nat), (∀ j, j < n → off (j + 1) = off j + size j) → off 0 = 0 → off n ≤ cs.length → (List.range n).flatMap (fun j => (cs.drop (off j)).take (size j)) = cs.take (off n)
  | 0, _, h0, _ => by simp [h0]
  | n + 1, h, h0, hn => by
    have hs := h n (by omega)
    rw [List.range_succ, List.flatMap_append, pieces cs off size n (fun j hj => h j (by omega)) h0 (by omega), hs]
    simp only [List.flatMap_cons, List.flatMap_nil, List.append_nil]
    rw [List.take_add]

theorem flat_range {α β : Type} (xs : List α) (g : α → List β) (f : Nat → List β) (n : Nat) (hn : xs.length = n) (h : ∀ (j : Nat) (x : α), xs[j]? = some x → f j = g x) : (List.range n).flatMap f = xs.flatMap g := by
  rw [List.flatMap_def, List.flatMap_def]
  congr 1
  apply List.ext_getElem?
  intro j
  simp only [List.getElem?_map]
  by_cases hj : j < n
  · rw [List.getElem?_eq_getElem (by omega : j < xs.length), List.getElem?_range hj]
    simp only [Option.map_some]
    rw [h j xs[j] (List.getElem?_eq_getElem (by omega))]
  · rw [List.getElem?_eq_none (by omega : xs.length ≤ j), List.getElem?_eq_none (by simp; omega)]; rfl

section
variable {P : Program} {w : World}

theorem trod_lits (hl : laidOutB P = true) {base : Nat} {sp : Nat → Bool} : ∀ (fuel : Nat) (t : TypeId) (cs : List Value) (d : DataW Unit) (ps : List MemPlace), isVar P t = true → litsB d = true →
    DataW.trod (fun _ => ()) P w base sp false fuel t cs = some (d, ps) → cs = litCells d
  | 0, _, _, _, _, _, _, h => by simp [DataW.trod] at h
  | fuel + 1, t, cs, d, ps, hv, hd, h => by
    have ih := @trod_lits hl base sp fuel
    have hlt : t < P.types.size := by simp only [isVar, Bool.and_eq_true, decide_eq_true_eq] at hv; exact hv.1
    have hrow := rowFine_of_laidOut hl hlt
    simp only [rowFine, hv, Bool.not_true, Bool.false_or] at hrow
    unfold DataW.trod at h
    split at h <;> (try (simp at h; done))
    · simp only [Option.some.injEq, Prod.mk.injEq] at h; obtain ⟨rfl, rfl⟩ := h; rfl
    · split at h
      · rename_i hk
        obtain ⟨rfl, _⟩ := hk
        simp only [Option.some.injEq, Prod.mk.injEq] at h; obtain ⟨rfl, rfl⟩ := h; rfl
      · cases h
    · split at h
      · simp only [Option.some.injEq, Prod.mk.injEq] at h; obtain ⟨rfl, rfl⟩ := h; cases hd
      · cases h
    · split at h
      · simp only [Option.some.injEq, Prod.mk.injEq] at h; obtain ⟨rfl, rfl⟩ := h; simp [litCells]
      · cases h
    · simp only [Option.some.injEq, Prod.mk.injEq] at h; obtain ⟨rfl, rfl⟩ := h; cases hd
    · simp only [Option.map_eq_some_iff, Prod.mk.injEq] at h; obtain ⟨_, _, rfl, _⟩ := h; cases hd
    · simp only [Option.some.injEq, Prod.mk.injEq] at h; obtain ⟨rfl, rfl⟩ := h; cases hd
    · dsimp only at h
      split at h
      · simp only [Option.bind_eq_some_iff, Option.map_eq_some_iff, Prod.mk.injEq] at h
        obtain ⟨_, _, _, _, rfl, _⟩ := h; cases hd
      · cases h
    · rename_i cs _ _ fs hu
      rw [hu] at hrow
      simp only [Bool.and_eq_true, beq_iff_eq, List.all_eq_true] at hrow
      obtain ⟨⟨hf, hsum⟩, hoff⟩ := hrow
      split at h
      · rename_i hcl
        simp only [Option.map_eq_some_iff, Prod.mk.injEq] at h
        obtain ⟨xs, hx, rfl, rfl⟩ := h
        obtain ⟨hxl, hxg⟩ := mapM_get hx
        simp only [litsB, litsBs_iff] at hd
        have key : ∀ (j : Nat) (f : Field) (x : DataW Unit × List MemPlace), fs.toList[j]? = some f → xs[j]? = some x → (cs.drop f.offset).take (P.cellsOf f.type) = litCells x.1 := by
          intro j f x hjf hjx
          obtain ⟨y, hy, hfy⟩ := hxg j f hjf
          rw [hjx] at hy; cases hy
          exact ih _ _ x.1 x.2 (hf f (List.mem_of_getElem? hjf)) (hd _ (List.mem_map.2 ⟨x, List.mem_of_getElem? hjx, rfl⟩)) hfy
        have hp := pieces cs (fun j => ((fs.toList.take j).map fun f => P.cellsOf f.type).sum) (fun j => (fs.toList[j]?).elim 0 fun f => P.cellsOf f.type) fs.toList.length (fun j hj => by
          rw [List.take_succ_eq_append_getElem hj]; simp [List.getElem?_eq_getElem hj]) (by simp) (by rw [List.take_length, hcl, hsum]; omega)
        simp only [List.take_length, ← hsum, ← hcl] at hp
        rw [← hp]
        simp only [litCells, litCellss_eq, List.flatMap_map]
        refine flat_range xs _ _ _ hxl fun j x hjx => ?_
        have hjx' : j < xs.length := (List.getElem?_eq_some_iff.1 hjx).1
        have hj' : j < fs.toList.length := by omega
        have h1 := hoff j (List.mem_range.2 hj')
        rw [List.getElem?_eq_getElem hj'] at h1
        simp only [beq_iff_eq] at h1
        have h2 := key j fs.toList[j] x (List.getElem?_eq_getElem hj') hjx
        rw [h1] at h2
        simp only [List.getElem?_eq_getElem hj', Option.elim_some]
        exact h2
      · cases h
    · rename_i cs _ _ n e hu
      rw [hu] at hrow
      simp only [Bool.and_eq_true, beq_iff_eq] at hrow
      obtain ⟨hf, hsum⟩ := hrow
      split at h
      · rename_i hcl
        simp only [Option.map_eq_some_iff, Prod.mk.injEq] at h
        obtain ⟨xs, hx, rfl, rfl⟩ := h
        obtain ⟨hxl, hxg⟩ := mapM_get hx
        rw [List.length_range] at hxl
        simp only [litsB, litsBs_iff] at hd
        have hp := pieces cs (fun j => j * P.cellsOf e) (fun _ => P.cellsOf e) n (fun j _ => Nat.succ_mul j _) (by simp) (by rw [hcl, hsum]; exact Nat.le_refl _)
        rw [List.take_of_length_le (by rw [hcl, hsum]; exact Nat.le_refl _)] at hp
        rw [← hp]
        simp only [litCells, litCellss_eq, List.flatMap_map]
        refine flat_range xs _ _ _ hxl fun j x hjx => ?_
        have hjx' : j < xs.length := (List.getElem?_eq_some_iff.1 hjx).1
        obtain ⟨y, hy, hfy⟩ := hxg j j (by rw [List.getElem?_range (by omega)])
        rw [hjx] at hy; cases hy
        exact ih _ _ _ _ hf (hd _ (List.mem_map.2 ⟨x, List.mem_of_getElem? hjx, rfl⟩)) hfy
      · cases h
    · simp only [Option.some.injEq, Prod.mk.injEq] at h; obtain ⟨rfl, rfl⟩ := h; cases hd
    · split at h
      · rename_i e; cases e
      · simp only [Option.map_eq_some_iff, Prod.mk.injEq] at h; obtain ⟨_, _, rfl, _⟩ := h; cases hd
      · cases h
    · simp only [Option.some.injEq, Prod.mk.injEq] at h; obtain ⟨rfl, rfl⟩ := h; cases hd
    · split at h
      · dsimp only at h
        split at h
        · simp only [Option.bind_eq_some_iff] at h
          obtain ⟨_, _, h⟩ := h
          split at h
          · simp only [Option.some.injEq, Prod.mk.injEq] at h; obtain ⟨rfl, rfl⟩ := h; cases hd
          · cases h
        · cases h
      · cases h
    · simp only [Option.some.injEq, Prod.mk.injEq] at h; obtain ⟨rfl, rfl⟩ := h; cases hd
    · simp only [Option.some.injEq, Prod.mk.injEq] at h; obtain ⟨rfl, rfl⟩ := h; cases hd
    · simp only [Option.some.injEq, Prod.mk.injEq] at h; obtain ⟨rfl, rfl⟩ := h; cases hd

/-- A listed variable. -/
theorem laid_at : ∀ {laid : List (String × DataW Unit)} {n : String} {d : DataW Unit}, laidMet P laid w → (n, d) ∈ laid →
    ∃ g t cs fuel p, P.globalNamed n = some g ∧ (P.globals[g]?).map (·.type) = some t ∧ w.var? P n = some cs ∧ DataW.trod (fun _ => ()) P w 0 (fun _ => true) false fuel t cs.toList = some (d, p) ∧
      ∀ u v, w.cell? ⟨g, 0, none⟩ = some (.iface u v) → 0 < cs.size → Value.okWide P w .any 0 u v
  | [], _, _, _, hm => by cases hm
  | x :: laid, n, d, h, hm => by
    rcases List.mem_cons.1 hm with rfl | hm
    · obtain ⟨ps, ⟨g, t, cs, fuel, p, q, h1, h2, h3, h4, h5, h6⟩, _, h8⟩ := h
      refine ⟨g, t, cs, fuel, p, h1, h2, h3, h4, fun u v hc hz => (h8 g 0 ?_).2 u v hc⟩
      rw [h6]
      refine List.mem_append_left _ (List.mem_append_left _ ?_)
      unfold MemPlace.row
      exact List.mem_map.2 ⟨0, List.mem_range.2 hz, by simp⟩
    · exact laid_at h.tail hm

def LitV (v : Value) : Prop := (∃ b, v = .bool b) ∨ (∃ k n, v = .int k n) ∨ ∃ s : List UInt8, v = .string ⟨⟨s⟩⟩
mutual
theorem litv_all : ∀ (d : DataW Unit), litsB d = true → ∀ v ∈ litCells d, LitV v
  | .lit (.bool b), _, v, hv => by simp [litCells] at hv; exact .inl ⟨b, hv⟩
  | .lit (.int k n), _, v, hv => by simp [litCells] at hv; exact .inr (.inl ⟨k, n, hv⟩)
  | .lit (.string s), _, v, hv => by simp [litCells] at hv; exact .inr (.inr ⟨s, hv⟩)
  | .agg ds, h, v, hv => litv_alls ds (by simpa [litsB] using h) v (by simpa [litCells] using hv)
  | .lit (.float _ _), h, _, _ => by cases h
  | .nil, h, _, _ => by cases h
  | .ptr _, h, _, _ => by cases h
  | .slice _ _, h, _, _ => by cases h
  | .iface _ _, h, _, _ => by cases h
  | .map _, h, _, _ => by cases h
  | .held _, h, _, _ => by cases h
theorem litv_alls : ∀ (ds : List (DataW Unit)), litsB.litsBs ds = true → ∀ v ∈ litCells.litCellss ds, LitV v
  | [], _, v, hv => by simp [litCells.litCellss] at hv
  | d :: ds, h, v, hv => by
    simp only [litsB.litsBs, Bool.and_eq_true] at h
    simp only [litCells.litCellss, List.mem_append] at hv
    rcases hv with hv | hv
    · exact litv_all d h.1 v hv
    · exact litv_alls ds h.2 v hv
end
theorem litv_rel {Hp : DHeap} : ∀ (d : DataW Unit), litsB d = true → RelL w Hp (ofVals (litCells d)) (litCells d) := by
  have all : ∀ (vs : List Value), (∀ v ∈ vs, (∃ b, v = .bool b) ∨ (∃ k n, v = .int k n) ∨ ∃ s : List UInt8, v = .string ⟨⟨s⟩⟩) → RelL w Hp (ofVals vs) vs := by
    intro vs
    induction vs with
    | nil => intro _; simp [ofVals, RelL]
    | cons v vs ih =>
      intro h
      simp only [ofVals, RelL]
      refine ⟨v, vs, rfl, ?_, ih fun x hx => h x (by simp [hx])⟩
      rcases h v (by simp) with ⟨b, rfl⟩ | ⟨k, n, rfl⟩ | ⟨s, rfl⟩ <;> simp [ofVal, Rel]
  exact fun d h => all _ (litv_all d h)

theorem laid_rel {laid : List (String × DataW Unit)} {n : String} {d : DataW Unit} {g : Nat} (hl : laidOutB P = true) (h : laidMet P laid w) (hm : (n, d) ∈ laid) (hd : litsB d = true) (hg : P.globalNamed n = some g)
    (hgt : isVar P (((P.globals[g]?).map (·.type)).getD 0) = true) : Rel w (fun _ => none) (.vptr (ofVals (litCells d)) 0) (.pointer (some ⟨g, 0, none⟩)) := by
  obtain ⟨g', t, cs, fuel, p, h1, h2, h3, h4, _⟩ := laid_at h hm
  rw [hg] at h1; cases h1
  rw [h2] at hgt
  have hc := trod_lits hl fuel t cs.toList d p hgt hd h4
  simp only [Rel]
  refine ⟨g, 0, cs.toList, rfl, ?_, by rw [hc]; exact litv_rel d hd⟩
  refine .inr ⟨rfl, fun i x hx => ?_⟩
  have := World.var?_cell hg h3 i
  rw [Nat.zero_add, this]
  simpa using hx

theorem laid_err {laid : List (String × DataW Unit)} {n nm : String} {d : DataW Unit} {g : Nat} (h : laidMet P laid w) (hm : (n, .iface nm (.ptr d)) ∈ laid) (hg : P.globalNamed n = some g) :
    ∃ t a, Rel w (fun _ => none) (.vptr [.iface t (.raw (.pointer (some a)))] 0) (.pointer (some ⟨g, 0, none⟩)) := by
  obtain ⟨g', t, cs, fuel, p, h1, h2, h3, h4, h5⟩ := laid_at h hm
  rw [hg] at h1; cases h1
  obtain ⟨l⟩ := cs
  have key : ∃ u a, l = [.iface u (.pointer (some a))] := by
    cases fuel with
    | zero => simp [DataW.trod] at h4
    | succ fuel =>
      have ok : ∀ u v, l = [.iface u v] → Value.okWide P w .any 0 u v := fun u v e => by
        subst e
        exact h5 u v (by simpa using World.var?_cell hg h3 0) (by simp)
      unfold DataW.trod at h4
      split at h4 <;> (try (simp at h4; done))
      all_goals (try (simp only [Option.map_eq_some_iff, Option.bind_eq_some_iff, Prod.mk.injEq] at h4; obtain ⟨_, _, e, _⟩ := h4; cases e; done))
      · dsimp only at h4
        split at h4
        · simp only [Option.bind_eq_some_iff, Option.map_eq_some_iff, Prod.mk.injEq] at h4
          obtain ⟨_, _, _, _, e, _⟩ := h4; cases e
        · cases h4
      · rename_i u v _ hll
        split at h4
        · rename_i e; cases e
        · simp only [Option.map_eq_some_iff, Prod.mk.injEq] at h4
          obtain ⟨⟨x1, x2⟩, hx, e, _⟩ := h4
          simp only [DataW.iface.injEq] at e
          obtain ⟨_, rfl⟩ := e
          have hll : l = [.iface u v] := hll
          have ok := ok u v hll
          cases fuel with
          | zero => simp [DataW.trod] at hx
          | succ fuel =>
            unfold DataW.trod at hx
            split at hx <;> (try (simp at hx; done))
            · rename_i e a hu hv
              have hv1 : v = .pointer (some a) := by
                unfold Value.okWide at ok
                rw [hu] at ok
                cases v <;> first | (simp [Value.cells] at hv; rw [hv]; done) | (simp [Value.cells] at hv; done) | skip
                all_goals (exfalso; revert ok; unfold Cell.okWide; rw [hu]; simp [Cell.ok, hu])
              exact ⟨u, a, by rw [hll, hv1]⟩
            · dsimp only at hx
              split at hx
              · simp only [Option.bind_eq_some_iff, Option.map_eq_some_iff, Prod.mk.injEq] at hx
                obtain ⟨_, _, _, _, e, _⟩ := hx; cases e
              · cases hx
            · split at hx
              · rename_i e; cases e
              · simp only [Option.map_eq_some_iff, Prod.mk.injEq] at hx; obtain ⟨_, _, e, _⟩ := hx; cases e
              · cases hx
            · split at hx
              · dsimp only at hx
                split at hx
                · simp only [Option.bind_eq_some_iff] at hx
                  obtain ⟨_, _, hx⟩ := hx
                  split at hx
                  · simp only [Option.some.injEq, Prod.mk.injEq] at hx; obtain ⟨e, _⟩ := hx; cases e
                  · cases hx
                · cases hx
              · cases hx
        · cases h4
      · split at h4
        · dsimp only at h4
          split at h4
          · simp only [Option.bind_eq_some_iff] at h4
            obtain ⟨_, _, h4⟩ := h4
            split at h4
            · simp only [Option.some.injEq, Prod.mk.injEq] at h4; obtain ⟨e, _⟩ := h4; cases e
            · cases h4
          · cases h4
        · cases h4
  obtain ⟨u, a, rfl⟩ := key
  refine ⟨u, a, ?_⟩
  simp only [Rel, RelL]
  refine ⟨g, 0, [.iface u (.pointer (some a))], rfl, .inr ⟨rfl, fun i x hx => ?_⟩, _, _, rfl, ⟨_, rfl, rfl, rfl⟩, rfl⟩
  have := World.var?_cell hg h3 i
  rw [Nat.zero_add, this]
  simpa using hx
end
end Go.Dl

-- THE READING, PART 4: an argument, as the data level sees it; a law's contract.
namespace Go.Dl
open Go Go.RowKit

section
variable {P : Program} {H : Type} {w : World}

theorem okWide_cells {r : Reach} {base : Nat} {t : TypeId} {v : Value} {d : TypeDesc} (hu : P.underlying t = some d) (hd : (∃ e, d = .slice e) ∨ (∃ k, d = .int k) ∨ d = .bool ∨ d = .string) (h : Value.okWide P w r base t v) : v.cells = #[v] := by
  unfold Value.okWide at h
  rw [hu] at h
  cases v <;> first | rfl | skip
  rename_i xs
  rcases hd with ⟨e, rfl⟩ | ⟨k, rfl⟩ | rfl | rfl <;> (unfold Cell.okWide at h; rw [hu] at h; simp [Cell.ok, hu] at h)

theorem cells_slice1 {r : Reach} {base : Nat} {t e : TypeId} {v : Value} (hu : P.underlying t = some (.slice e)) (h : Value.okWide P w r base t v) : v.cells = #[v] := okWide_cells hu (.inl ⟨_, rfl⟩) h
theorem cells_int1 {r : Reach} {base : Nat} {t : TypeId} {k : IntKind} {v : Value} (hu : P.underlying t = some (.int k)) (h : Value.okWide P w r base t v) : v.cells = #[v] := okWide_cells hu (.inr (.inl ⟨_, rfl⟩)) h
theorem cells_bool1 {r : Reach} {base : Nat} {t : TypeId} {v : Value} (hu : P.underlying t = some .bool) (h : Value.okWide P w r base t v) : v.cells = #[v] := okWide_cells hu (.inr (.inr (.inl rfl))) h
theorem cells_str1 {r : Reach} {base : Nat} {t : TypeId} {v : Value} (hu : P.underlying t = some .string) (h : Value.okWide P w r base t v) : v.cells = #[v] := okWide_cells hu (.inr (.inr (.inr rfl))) h

theorem arg_of {t : TypeId} {α : Type} {f : α → DVal} {g : α → DataW H → Prop} (hr : Reads P H w t α (fun x => [f x]) g) {enc : TypeId × Value → H} {base : Nat} {sp : Nat → Bool} {held : Bool} {v : Value} {d : DataW H} {ps : List MemPlace}
    (h : DataW.Trod enc P w base sp held t v d ps) (hv : v.cells = #[v]) : ∃ x, g x d ∧ Rel w (fun _ => none) (f x) v := by
  obtain ⟨fuel, h⟩ := h
  rw [hv] at h
  obtain ⟨x, hg, hx⟩ := hr _ _ _ _ _ _ _ _ h
  exact ⟨x, hg, hx.one⟩

end
end Go.Dl

-- THE READING, PART 5: the bound on what is read, at plain data.
namespace Go.Dl
open Go Go.RowKit Go.Proofs.YtojpnjngdiimhaaGreatDoor

section
variable {H : Type}

theorem bulk_one (d : DataW H) : 1 ≤ Rows.uptoBulk d := by
  cases d
  case lit l => cases l <;> simp only [Rows.uptoBulk] <;> omega
  all_goals simp only [Rows.uptoBulk]
  all_goals omega

theorem bulk_small {l : List (DataW H)} (h : Rows.uptoSmall H l = true) : Rows.uptoBulkAll l ≤ 1048576 := of_decide_eq_true h
theorem bulk_app (l r : List (DataW H)) : Rows.uptoBulkAll (l ++ r) = Rows.uptoBulkAll l + Rows.uptoBulkAll r := by
  induction l with
  | nil => simp [Rows.uptoBulkAll]
  | cons d l ih => simp only [List.cons_append, Rows.uptoBulkAll, ih]; omega

theorem bulk_len {α : Type} {g : α → DataW H → Prop} : ∀ {xs : List α} {ds : List (DataW H)}, AllG g xs ds → xs.length ≤ Rows.uptoBulkAll ds
  | [], [], _ => by simp
  | [], _ :: _, h => h.elim
  | _ :: _, [], h => h.elim
  | x :: xs, d :: ds, h => by
    have := bulk_len h.2
    have := bulk_one d
    simp only [List.length_cons, Rows.uptoBulkAll]; omega

theorem bulk_sum {α : Type} {g : α → DataW H → Prop} (m : α → Nat) (hm : ∀ x d, g x d → m x + 1 ≤ Rows.uptoBulk d) : ∀ {xs : List α} {ds : List (DataW H)}, AllG g xs ds → (xs.map m).sum + xs.length ≤ Rows.uptoBulkAll ds
  | [], [], _ => by simp
  | [], _ :: _, h => h.elim
  | _ :: _, [], h => h.elim
  | x :: xs, d :: ds, h => by
    have := bulk_sum m hm h.2
    have := hm x d h.1
    simp only [List.map_cons, List.sum_cons, List.length_cons, Rows.uptoBulkAll]; omega

/-- What was read as a slice of x's. -/
def SlG {α : Type} (g : α → DataW H → Prop) (xs : List α) (d : DataW H) : Prop := (d = .nil ∧ xs = []) ∨ ∃ es sp, d = .slice es sp ∧ xs.length ≤ maxLen ∧ AllG g xs es

theorem bulk_sl {α : Type} {g : α → DataW H → Prop} {xs : List α} {d : DataW H} (h : SlG g xs d) : xs.length + 1 ≤ Rows.uptoBulk d := by
  rcases h with ⟨rfl, rfl⟩ | ⟨es, sp, rfl, _, h⟩
  · simp [Rows.uptoBulk]
  · have := bulk_len h
    simp only [Rows.uptoBulk]; omega
theorem bulk_slsum {α : Type} {g : α → DataW H → Prop} (m : α → Nat) (hm : ∀ x d, g x d → m x + 1 ≤ Rows.uptoBulk d) {xs : List α} {d : DataW H} (h : SlG g xs d) : (xs.map m).sum + xs.length + 1 ≤ Rows.uptoBulk d := by
  rcases h with ⟨rfl, rfl⟩ | ⟨es, sp, rfl, _, h⟩
  · simp [Rows.uptoBulk]
  · have := bulk_sum m hm h
    simp only [Rows.uptoBulk]; omega

theorem le_sum {l : List Nat} {x : Nat} (h : x ∈ l) : x ≤ l.sum := by
  induction l with
  | nil => cases h
  | cons y l ih =>
    rw [List.sum_cons]
    rcases List.mem_cons.1 h with rfl | h
    · omega
    · have := ih h; omega

end

theorem flatMap_one {α : Type} (f : α → DVal) (l : List α) : l.flatMap (fun x => [f x]) = l.map f := by
  induction l with
  | nil => rfl
  | cons x l ih => simp [ih]

section
variable {P : Program} {H : Type} {w : World}
theorem reads_ints {t e : TypeId} (ht : P.underlying t = some (.slice e)) (he : P.underlying e = some (.int .i64)) : Reads P H w t (List Int) (fun l => [dIs l]) (SlG fun n d => (Lit.int .i64 n).wf = true ∧ d = .lit (.int .i64 n)) := by
  have := reads_slice (H := H) (w := w) ht (reads_int he)
  intro enc base sp held fuel cs d ps h
  obtain ⟨xs, hg, hr⟩ := this enc base sp held fuel cs d ps h
  refine ⟨xs, hg, ?_⟩
  have hr' : RelL w (fun _ => none) [.vslice (xs.flatMap (fun n => [DVal.int .i64 n])) xs.length] cs := hr
  rw [flatMap_one] at hr'; exact hr'
theorem reads_bools {t e : TypeId} (ht : P.underlying t = some (.slice e)) (he : P.underlying e = some .bool) : Reads P H w t (List Bool) (fun l => [.vslice (l.map .bool) l.length]) (SlG fun b d => d = .lit (.bool b)) := by
  have := reads_slice (H := H) (w := w) ht (reads_bool he)
  intro enc base sp held fuel cs d ps h
  obtain ⟨xs, hg, hr⟩ := this enc base sp held fuel cs d ps h
  refine ⟨xs, hg, ?_⟩
  have hr' : RelL w (fun _ => none) [.vslice (xs.flatMap (fun n => [DVal.bool n])) xs.length] cs := hr
  rw [flatMap_one] at hr'; exact hr'
theorem reads_intss {t u e : TypeId} (ht : P.underlying t = some (.slice u)) (hu : P.underlying u = some (.slice e)) (he : P.underlying e = some (.int .i64)) : Reads P H w t (List (List Int)) (fun l => [dIss l]) (SlG (SlG fun n d => (Lit.int .i64 n).wf = true ∧ d = .lit (.int .i64 n))) := by
  have := reads_slice (H := H) (w := w) ht (reads_ints hu he)
  intro enc base sp held fuel cs d ps h
  obtain ⟨xs, hg, hr⟩ := this enc base sp held fuel cs d ps h
  refine ⟨xs, hg, ?_⟩
  have hr' : RelL w (fun _ => none) [.vslice (xs.flatMap (fun n => [dIs n])) xs.length] cs := hr
  rw [flatMap_one] at hr'; exact hr'
end
end Go.Dl

-- THE READING, PART 6: slices of any kind of int, structs.
namespace Go.Dl
open Go Go.RowKit Go.Proofs.YtojpnjngdiimhaaGreatDoor

theorem wf_int {k : IntKind} {n : Int} (h : (Lit.int k n).wf = true) : k.min ≤ n ∧ n ≤ k.max := by
  simpa [Lit.wf] using h

section
variable {P : Program} {H : Type} {w : World}

theorem reads_intsK {t e : TypeId} {k : IntKind} (ht : P.underlying t = some (.slice e)) (he : P.underlying e = some (.int k)) : Reads P H w t (List Int) (fun l => [.vslice (l.map (.int k)) l.length]) (SlG fun n d => (Lit.int k n).wf = true ∧ d = .lit (.int k n)) := by
  have := reads_slice (H := H) (w := w) ht (reads_int he)
  intro enc base sp held fuel cs d ps h
  obtain ⟨xs, hg, hr⟩ := this enc base sp held fuel cs d ps h
  refine ⟨xs, hg, ?_⟩
  have hr' : RelL w (fun _ => none) [.vslice (xs.flatMap (fun n => [DVal.int k n])) xs.length] cs := hr
  rw [flatMap_one] at hr'; exact hr'

theorem allG_wf {k : IntKind} : ∀ {xs : List Int} {ds : List (DataW H)}, AllG (fun n d => (Lit.int k n).wf = true ∧ d = .lit (.int k n)) xs ds → ∀ x ∈ xs, k.min ≤ x ∧ x ≤ k.max
  | [], _, _, x, hx => by cases hx
  | _ :: _, [], h, _, _ => h.elim
  | y :: xs, d :: ds, h, x, hx => by
    rcases List.mem_cons.1 hx with rfl | hx
    · exact wf_int h.1.1
    · exact allG_wf h.2 x hx
theorem slG_wf {k : IntKind} {xs : List Int} {d : DataW H} (h : SlG (fun n d => (Lit.int k n).wf = true ∧ d = .lit (.int k n)) xs d) : ∀ x ∈ xs, k.min ≤ x ∧ x ≤ k.max := by
  rcases h with ⟨rfl, rfl⟩ | ⟨es, sp, rfl, _, h⟩
  · intro x hx; cases hx
  · exact allG_wf h

-- structs -----------------------------------------------------------------------------------------------------------------------
/-- The fields fs, from cell off on, are read so. -/
def ReadsFs (P : Program) (H : Type) (w : World) (fs : List Field) (off total : Nat) (α : Type) (f : α → List DVal) (g : α → List (DataW H) → Prop) : Prop :=
  ∀ (enc : TypeId × Value → H) base sp held fuel (cs : List Value) xs, cs.length = total → (fs.mapM fun fl => DataW.trod enc P w base sp held fuel fl.type ((cs.drop fl.offset).take (P.cellsOf fl.type))) = some xs → ∃ x, g x (xs.map (·.1)) ∧ RelL w (fun _ => none) (f x) (cs.drop off)

theorem readsFs_nil (n : Nat) : ReadsFs P H w [] n n Unit (fun _ => []) (fun _ ds => ds = []) := by
  intro enc base sp held fuel cs xs hl h
  simp at h
  subst h
  exact ⟨(), rfl, by rw [List.drop_of_length_le (by omega)]; simp [RelL]⟩

theorem readsFs_cons {fl : Field} {fs : List Field} {off total n : Nat} {α β : Type} {f : α → List DVal} {g : α → DataW H → Prop} {f' : β → List DVal} {g' : β → List (DataW H) → Prop} (h1 : Reads P H w fl.type α f g) (ho : fl.offset = off) (hn : P.cellsOf fl.type = n)
    (h2 : ReadsFs P H w fs (off + n) total β f' g') : ReadsFs P H w (fl :: fs) off total (α × β) (fun x => f x.1 ++ f' x.2) (fun x ds => ∃ d ds', ds = d :: ds' ∧ g x.1 d ∧ g' x.2 ds') := by
  intro enc base sp held fuel cs xs hl h
  rw [List.mapM_cons] at h
  simp only [Option.bind_eq_bind, Option.bind_eq_some_iff, Option.pure_def, Option.some.injEq] at h
  obtain ⟨y, hy, ys, hys, rfl⟩ := h
  obtain ⟨x1, g1, r1⟩ := h1 enc base sp held fuel _ y.1 y.2 hy
  obtain ⟨x2, g2, r2⟩ := h2 enc base sp held fuel cs ys hl hys
  refine ⟨(x1, x2), ⟨y.1, ys.map (·.1), by simp, g1, g2⟩, ?_⟩
  rw [ho, hn] at r1
  have : cs.drop off = (cs.drop off).take n ++ cs.drop (off + n) := by
    rw [← List.drop_drop, List.take_append_drop]
  rw [this]
  exact r1.append r2

theorem reads_struct {t : TypeId} {fs : List Field} {α : Type} {f : α → List DVal} {g : α → List (DataW H) → Prop} (ht : P.underlying t = some (.struct fs.toArray)) (h : ReadsFs P H w fs 0 (P.cellsOf t) α f g) :
    Reads P H w t α f (fun x d => ∃ ds, d = .agg ds ∧ g x ds) := by
  intro enc base sp held fuel cs d ps hh
  cases fuel with
  | zero => simp [DataW.trod] at hh
  | succ fuel =>
    unfold DataW.trod at hh
    rw [ht] at hh
    dsimp only at hh
    split at hh
    · rename_i hl
      simp only [Option.map_eq_some_iff, Prod.mk.injEq] at hh
      obtain ⟨xs, hx, rfl, rfl⟩ := hh
      obtain ⟨x, g1, r1⟩ := h enc base sp held fuel cs xs hl hx
      exact ⟨x, ⟨_, rfl, g1⟩, by simpa using r1⟩
    · cases hh

/-- Read otherwise told. -/
theorem Reads.map {t : TypeId} {α β : Type} {f : α → List DVal} {g : α → DataW H → Prop} (h : Reads P H w t α f g) {f' : β → List DVal} {g' : β → DataW H → Prop} (c : ∀ x d, g x d → ∃ y, f' y = f x ∧ g' y d) : Reads P H w t β f' g' := by
  intro enc base sp held fuel cs d ps hh
  obtain ⟨x, g1, r1⟩ := h enc base sp held fuel cs d ps hh
  obtain ⟨y, e, g2⟩ := c x d g1
  exact ⟨y, g2, by rw [e]; exact r1⟩

theorem arg_agg {t : TypeId} {α : Type} {f : α → List DVal} {g : α → DataW H → Prop} (hr : Reads P H w t α f g) {enc : TypeId × Value → H} {base : Nat} {sp : Nat → Bool} {held : Bool} {v : Value} {d : DataW H} {ps : List MemPlace}
    (h : DataW.Trod enc P w base sp held t v d ps) (hv : ∃ xs, v = .agg xs) : ∃ x, g x d ∧ Rel w (fun _ => none) (.agg (f x)) v := by
  obtain ⟨fuel, h⟩ := h
  obtain ⟨xs, rfl⟩ := hv
  obtain ⟨x, hg, hx⟩ := hr _ _ _ _ _ _ _ _ h
  exact ⟨x, hg, by simp only [Rel]; exact ⟨xs, rfl, by simpa [Value.cells] using hx⟩⟩
theorem agg_of {r : Reach} {base : Nat} {t : TypeId} {v : Value} {fs : Array Field} (hu : P.underlying t = some (.struct fs)) (h : Value.okWide P w r base t v) : ∃ xs, v = .agg xs := by
  unfold Value.okWide at h
  rw [hu] at h
  cases v <;> first | exact ⟨_, rfl⟩ | (exfalso; revert h; unfold Cell.okWide; rw [hu]; simp [Cell.ok, hu]; done) | skip
end
end Go.Dl

-- THE READING: arrays.
namespace Go.Dl
open Go Go.RowKit Go.Deep
variable {P : Program} {H : Type} {w : World}

theorem reads_array {t e : TypeId} {n : Nat} {α : Type} {f : α → List DVal} {g : α → DataW H → Prop} (ht : P.underlying t = some (.array n e)) (hn : P.cellsOf t = n * P.cellsOf e) (he : Reads P H w e α f g) :
    Reads P H w t (List α) (fun xs => xs.flatMap f) (fun xs d => ∃ ds, d = .agg ds ∧ xs.length = n ∧ AllG g xs ds) := by
  intro enc base sp held fuel cs d ps hh
  cases fuel with
  | zero => simp [DataW.trod] at hh
  | succ fuel =>
    unfold DataW.trod at hh
    rw [ht] at hh
    dsimp only at hh
    split at hh
    · rename_i hl
      simp only [Option.map_eq_some_iff, Prod.mk.injEq] at hh
      obtain ⟨xs, hx, rfl, rfl⟩ := hh
      obtain ⟨h1, h2⟩ := mapM_get hx
      rw [List.length_range] at h1
      have key : ∀ k, k ≤ n → ∃ zs : List α, zs.length = k ∧ AllG g zs ((xs.take k).map (·.1)) ∧ RelL w (fun _ => none) (zs.flatMap f) (cs.take (k * P.cellsOf e)) := by
        intro k
        induction k with
        | zero => intro _; exact ⟨[], rfl, trivial, by simp [RelL]⟩
        | succ k ih =>
          intro hk
          obtain ⟨zs, a1, a2, a3⟩ := ih (by omega)
          obtain ⟨y, hy, hf⟩ := h2 k k (by simp [List.getElem?_range, show k < n by omega])
          obtain ⟨x, gx, rx⟩ := he enc base sp held fuel _ y.1 y.2 hf
          refine ⟨zs ++ [x], by simp [a1], ?_, ?_⟩
          · rw [List.take_add_one, hy, List.map_append]
            exact a2.append ⟨gx, trivial⟩
          · rw [List.flatMap_append, Nat.succ_mul, List.take_add]
            exact a3.append (by simpa using rx)
      obtain ⟨zs, a1, a2, a3⟩ := key n (Nat.le_refl _)
      refine ⟨zs, ⟨_, rfl, a1, ?_⟩, ?_⟩
      · rw [List.take_of_length_le (by omega)] at a2; exact a2
      · rw [List.take_of_length_le (by omega)] at a3; exact a3
    · cases hh
theorem agg_ofArr {r : Reach} {base : Nat} {t e : TypeId} {n : Nat} {v : Value} (hu : P.underlying t = some (.array n e)) (h : Value.okWide P w r base t v) : ∃ xs, v = .agg xs := by
  unfold Value.okWide at h
  rw [hu] at h
  cases v <;> first | exact ⟨_, rfl⟩ | (exfalso; revert h; unfold Cell.okWide; rw [hu]; simp [Cell.ok, hu]; done) | skip
end Go.Dl

-- The library functions of this seat, by the shelf (printed by shelfpick.py out of what the shelf's tools wrote at the seat).
namespace Go.Proofs
open Go.Shelf
def Tryz.lays169_ren : Go.Shelf.Ren := ⟨fun | 169 => 61 | n => n, fun | 70 => 72 | 9 => 9 | 0 => 0 | 72 => 74 | 37 => 54 | 127 => 95 | 3 => 3 | 5 => 5 | n => n, fun | n => n⟩
theorem Tryz.lays169 : Go.Proofs.Lays.n169 Tryz.prog Tryz.lays169_ren := {
  mixed := by kernel_rfl
  f169 := Tryz.func61.trans (congrArg some (by kernel_rfl))
  t0 := Tryz.underlying0
  a0 := Tryz.isAgg0
  z0 := Tryz.sizeOf0
  v0 := Tryz.zeroValue0
  t3 := Tryz.underlying3
  a3 := Tryz.isAgg3
  z3 := Tryz.sizeOf3
  v3 := Tryz.zeroValue3
  t9 := Tryz.underlying9
  a9 := Tryz.isAgg9
  z9 := Tryz.sizeOf9
  v9 := Tryz.zeroValue9
  t37 := Tryz.underlying54
  a37 := Tryz.isAgg54
  z37 := Tryz.sizeOf54
  v37 := Tryz.zeroValue54
  t70 := Tryz.underlying72
  a70 := Tryz.isAgg72
  z70 := Tryz.sizeOf72
  v70 := Tryz.zeroValue72
  t72 := Tryz.underlying74
  a72 := Tryz.isAgg74
  z72 := Tryz.sizeOf74
  v72 := Tryz.zeroValue74
  t127 := Tryz.underlying95
  a127 := Tryz.isAgg95
  z127 := Tryz.sizeOf95
  v127 := Tryz.zeroValue95 }
theorem Tryz.Builder_Extra_169 : Builder.Extra Tryz.prog Tryz.lays169_ren := {
  sizeBuilder := by kernel_rfl
  liesBuilder := by kernel_rfl
  t5 := Tryz.underlying5
  a5 := Tryz.isAgg5
  z5 := Tryz.sizeOf5
  v5 := Tryz.zeroValue5
  infoByte := by kernel_rfl
  cellsByte := by kernel_rfl
  sizeByte := by kernel_rfl
  neB5 := by decide }
open Go.RowKit in
theorem Tryz.Builder_String (B b : Nat) (l : List UInt8) (w : World) (h : Lib.IsBuilder 74 5 B b (Lib.byteCells l) w) (h0 : l ≠ []) :
    Calls Tryz.prog 61 #[.pointer (some ⟨b, 0, none⟩)] w fun e w' => e = .returned (.string ⟨l.toArray⟩) ∧ Below B w w' := Any.Builder_String Tryz.lays169 Tryz.Builder_Extra_169 B b l w h h0
def Tryz.lays156_ren : Go.Shelf.Ren := ⟨fun | 156 => 41 | 165 => 65 | 166 => 59 | 169 => 61 | 240 => 82 | 241 => 90 | 276 => 108 | 277 => 114 | n => n, fun | 31 => 56 | 9 => 9 | 3 => 3 | 4 => 4 | 0 => 0 | 20 => 20 | 72 => 74 | 76 => 77 | 70 => 72 | 37 => 54 | 75 => 76 | 127 => 95 | 164 => 116 | 5 => 5 | 80 => 80 | n => n, fun | n => n⟩
theorem Tryz.lays156 : Go.Proofs.Lays.n156 Tryz.prog Tryz.lays156_ren := {
  mixed := by kernel_rfl
  f156 := Tryz.func41.trans (congrArg some (by kernel_rfl))
  f165 := Tryz.func65.trans (congrArg some (by kernel_rfl))
  f166 := Tryz.func59.trans (congrArg some (by kernel_rfl))
  f169 := Tryz.func61.trans (congrArg some (by kernel_rfl))
  f240 := Tryz.func82.trans (congrArg some (by kernel_rfl))
  f241 := Tryz.func90.trans (congrArg some (by kernel_rfl))
  f276 := Tryz.func108.trans (congrArg some (by kernel_rfl))
  f277 := Tryz.func114.trans (congrArg some (by kernel_rfl))
  t0 := Tryz.underlying0
  a0 := Tryz.isAgg0
  z0 := Tryz.sizeOf0
  v0 := Tryz.zeroValue0
  t3 := Tryz.underlying3
  a3 := Tryz.isAgg3
  z3 := Tryz.sizeOf3
  v3 := Tryz.zeroValue3
  t4 := Tryz.underlying4
  a4 := Tryz.isAgg4
  z4 := Tryz.sizeOf4
  v4 := Tryz.zeroValue4
  t9 := Tryz.underlying9
  a9 := Tryz.isAgg9
  z9 := Tryz.sizeOf9
  v9 := Tryz.zeroValue9
  t20 := Tryz.underlying20
  a20 := Tryz.isAgg20
  z20 := Tryz.sizeOf20
  v20 := Tryz.zeroValue20
  t31 := Tryz.underlying56
  a31 := Tryz.isAgg56
  z31 := Tryz.sizeOf56
  v31 := Tryz.zeroValue56
  t37 := Tryz.underlying54
  a37 := Tryz.isAgg54
  z37 := Tryz.sizeOf54
  v37 := Tryz.zeroValue54
  t70 := Tryz.underlying72
  a70 := Tryz.isAgg72
  z70 := Tryz.sizeOf72
  v70 := Tryz.zeroValue72
  t72 := Tryz.underlying74
  a72 := Tryz.isAgg74
  z72 := Tryz.sizeOf74
  v72 := Tryz.zeroValue74
  t75 := Tryz.underlying76
  a75 := Tryz.isAgg76
  z75 := Tryz.sizeOf76
  v75 := Tryz.zeroValue76
  t76 := Tryz.underlying77
  a76 := Tryz.isAgg77
  z76 := Tryz.sizeOf77
  v76 := Tryz.zeroValue77
  t127 := Tryz.underlying95
  a127 := Tryz.isAgg95
  z127 := Tryz.sizeOf95
  v127 := Tryz.zeroValue95
  t164 := Tryz.underlying116
  a164 := Tryz.isAgg116
  z164 := Tryz.sizeOf116
  v164 := Tryz.zeroValue116 }
theorem Tryz.Builder_Extra_156 : Builder.Extra Tryz.prog Tryz.lays156_ren := {
  sizeBuilder := by kernel_rfl
  liesBuilder := by kernel_rfl
  t5 := Tryz.underlying5
  a5 := Tryz.isAgg5
  z5 := Tryz.sizeOf5
  v5 := Tryz.zeroValue5
  infoByte := by kernel_rfl
  cellsByte := by kernel_rfl
  sizeByte := by kernel_rfl
  neB5 := by decide }
open Go.RowKit in
theorem Tryz.strings_Join_none (a : Option Addr) (c : Nat) (sep : ByteArray) (w : World) :
    Calls Tryz.prog 41 #[.slice a 0 c, .string sep] w fun e w' => e = .returned (.string ⟨#[]⟩) ∧ w' = w := Any.strings_Join_none Tryz.lays156 Tryz.Builder_Extra_156 a c sep w
open Go.RowKit in
theorem Tryz.strings_Join (bk o c : Nat) (xs : List ByteArray) (sep : ByteArray) (w : World) (hcells : ∀ (j : Nat) x, xs[j]? = some x → w.cell? ⟨bk, o + j, none⟩ = some (.string x)) (hbk : bk < w.heap.size) (hN : xs.length ≤ 140737488355328) (hcap : xs.length ≤ c) (hlen : (Lib.join (xs.map (·.data.toList)) sep.data.toList).length ≤ 140737488355328) :
    Calls Tryz.prog 41 #[.slice (some ⟨bk, o, none⟩) xs.length c, .string sep] w fun e w' => e = .returned (.string ⟨(Lib.join (xs.map (·.data.toList)) sep.data.toList).toArray⟩) ∧ Below w.heap.size w w' := Any.strings_Join Tryz.lays156 Tryz.Builder_Extra_156 bk o c xs sep w hcells hbk hN hcap hlen
def Tryz.lays161_ren : Go.Shelf.Ren := ⟨fun | 161 => 84 | 231 => 109 | 227 => 110 | 233 => 111 | 235 => 112 | 228 => 126 | 197 => 123 | 151 => 127 | 260 => 133 | 152 => 136 | 137 => 77 | 119 => 143 | 224 => 121 | 225 => 120 | 217 => 103 | 266 => 125 | n => n, fun | 9 => 9 | 4 => 4 | 3 => 3 | 5 => 5 | 117 => 121 | 116 => 120 | 0 => 0 | 124 => 124 | 105 => 134 | 21 => 21 | 119 => 111 | 46 => 84 | 139 => 165 | 138 => 164 | n => n, fun | 3 => 6 | 4 => 7 | n => n⟩
theorem Tryz.lays161 : Go.Proofs.Lays.n161 Tryz.prog Tryz.lays161_ren := {
  mixed := by kernel_rfl
  f119 := Tryz.func143.trans (congrArg some (by kernel_rfl))
  f137 := Tryz.func77.trans (congrArg some (by kernel_rfl))
  f151 := Tryz.func127.trans (congrArg some (by kernel_rfl))
  f152 := Tryz.func136.trans (congrArg some (by kernel_rfl))
  f161 := Tryz.func84.trans (congrArg some (by kernel_rfl))
  f197 := Tryz.func123.trans (congrArg some (by kernel_rfl))
  f217 := Tryz.func103.trans (congrArg some (by kernel_rfl))
  f224 := Tryz.func121.trans (congrArg some (by kernel_rfl))
  f225 := Tryz.func120.trans (congrArg some (by kernel_rfl))
  f227 := Tryz.func110.trans (congrArg some (by kernel_rfl))
  f228 := Tryz.func126.trans (congrArg some (by kernel_rfl))
  f231 := Tryz.func109.trans (congrArg some (by kernel_rfl))
  f233 := Tryz.func111.trans (congrArg some (by kernel_rfl))
  f235 := Tryz.func112.trans (congrArg some (by kernel_rfl))
  f260 := Tryz.func133.trans (congrArg some (by kernel_rfl))
  f266 := Tryz.func125.trans (congrArg some (by kernel_rfl))
  t0 := Tryz.underlying0
  a0 := Tryz.isAgg0
  z0 := Tryz.sizeOf0
  v0 := Tryz.zeroValue0
  t3 := Tryz.underlying3
  a3 := Tryz.isAgg3
  z3 := Tryz.sizeOf3
  v3 := Tryz.zeroValue3
  t4 := Tryz.underlying4
  a4 := Tryz.isAgg4
  z4 := Tryz.sizeOf4
  v4 := Tryz.zeroValue4
  t5 := Tryz.underlying5
  a5 := Tryz.isAgg5
  z5 := Tryz.sizeOf5
  v5 := Tryz.zeroValue5
  t9 := Tryz.underlying9
  a9 := Tryz.isAgg9
  z9 := Tryz.sizeOf9
  v9 := Tryz.zeroValue9
  t21 := Tryz.underlying21
  a21 := Tryz.isAgg21
  z21 := Tryz.sizeOf21
  v21 := Tryz.zeroValue21
  t46 := Tryz.underlying84
  a46 := Tryz.isAgg84
  z46 := Tryz.sizeOf84
  v46 := Tryz.zeroValue84
  t105 := Tryz.underlying134
  a105 := Tryz.isAgg134
  z105 := Tryz.sizeOf134
  v105 := Tryz.zeroValue134
  t116 := Tryz.underlying120
  a116 := Tryz.isAgg120
  z116 := Tryz.sizeOf120
  t117 := Tryz.underlying121
  a117 := Tryz.isAgg121
  z117 := Tryz.sizeOf121
  v117 := Tryz.zeroValue121
  t119 := Tryz.underlying111
  a119 := Tryz.isAgg111
  z119 := Tryz.sizeOf111
  t124 := Tryz.underlying124
  a124 := Tryz.isAgg124
  z124 := Tryz.sizeOf124
  v124 := Tryz.zeroValue124
  t138 := Tryz.underlying164
  a138 := Tryz.isAgg164
  z138 := Tryz.sizeOf164
  v138 := Tryz.zeroValue164
  t139 := Tryz.underlying165
  a139 := Tryz.isAgg165
  z139 := Tryz.sizeOf165
  v139 := Tryz.zeroValue165
  g3 := by kernel_rfl
  g4 := by kernel_rfl }
open Go.RowKit in
theorem Tryz.strings_TrimLeft_one (s : ByteArray) (c : UInt8) (hc : c.toNat < 128) (w : World) :
    Calls Tryz.prog 84 #[.string s, .string ⟨#[c]⟩] w fun e w' => e = .returned (.string ⟨(Lib.trimLeftB s.data.toList c).toArray⟩) ∧ w' = w := Any.strings_TrimLeft_one Tryz.lays161 s c hc w
def Tryz.lays137_ren : Go.Shelf.Ren := ⟨fun | 137 => 77 | 217 => 103 | 266 => 125 | n => n, fun | 9 => 9 | 5 => 5 | 3 => 3 | n => n, fun | n => n⟩
theorem Tryz.lays137 : Go.Proofs.Lays.n137 Tryz.prog Tryz.lays137_ren := {
  mixed := by kernel_rfl
  f137 := Tryz.func77.trans (congrArg some (by kernel_rfl))
  f217 := Tryz.func103.trans (congrArg some (by kernel_rfl))
  f266 := Tryz.func125.trans (congrArg some (by kernel_rfl))
  t3 := Tryz.underlying3
  a3 := Tryz.isAgg3
  z3 := Tryz.sizeOf3
  v3 := Tryz.zeroValue3
  t5 := Tryz.underlying5
  a5 := Tryz.isAgg5
  z5 := Tryz.sizeOf5
  v5 := Tryz.zeroValue5
  t9 := Tryz.underlying9
  a9 := Tryz.isAgg9
  z9 := Tryz.sizeOf9
  v9 := Tryz.zeroValue9 }
open Go.RowKit in
theorem Tryz.strings_IndexByte (s : ByteArray) (c : Int) (w : World) :
    Calls Tryz.prog 77 #[.string s, .int .u8 c] w fun e w' => e = .returned (.int .i64 (Lib.indexByte s.data.toList c.toNat.toUInt8)) ∧ w' = w := Any.strings_IndexByte Tryz.lays137 s c w
def Tryz.laysM173_ren : Go.Shelf.Ren := ⟨fun | 173 => 31 | 246 => 66 | 283 => 91 | 284 => 92 | 285 => 93 | 286 => 94 | 129 => 116 | 317 => 115 | 318 => 117 | 319 => 118 | 320 => 119 | 337 => 130 | 338 => 131 | n => n, fun | 2 => 2 | 3 => 3 | 9 => 9 | 4 => 4 | 171 => 104 | 0 => 0 | 53 => 100 | 37 => 54 | 5 => 5 | 173 => 107 | 212 => 130 | 51 => 42 | 20 => 20 | 213 => 131 | 46 => 84 | 232 => 161 | 233 => 162 | n => n, fun | 17 => 2 | 18 => 4 | 19 => 5 | n => n⟩
theorem Tryz.laysM173 : Go.Proofs.LaysM.n173 Tryz.prog Tryz.laysM173_ren := {
  mixed := by kernel_rfl
  f129 := Tryz.func116.trans (congrArg some (by kernel_rfl))
  f173 := Tryz.func31.trans (congrArg some (by kernel_rfl))
  f246 := Tryz.func66.trans (congrArg some (by kernel_rfl))
  f283 := Tryz.func91.trans (congrArg some (by kernel_rfl))
  f284 := Tryz.func92.trans (congrArg some (by kernel_rfl))
  f285 := Tryz.func93.trans (congrArg some (by kernel_rfl))
  f286 := Tryz.func94.trans (congrArg some (by kernel_rfl))
  f317 := Tryz.func115.trans (congrArg some (by kernel_rfl))
  f318 := Tryz.func117.trans (congrArg some (by kernel_rfl))
  f319 := Tryz.func118.trans (congrArg some (by kernel_rfl))
  f320 := Tryz.func119.trans (congrArg some (by kernel_rfl))
  f337 := Tryz.func130.trans (congrArg some (by kernel_rfl))
  f338 := Tryz.func131.trans (congrArg some (by kernel_rfl))
  t0 := Tryz.underlying0
  a0 := Tryz.isAgg0
  z0 := Tryz.sizeOf0
  v0 := Tryz.zeroValue0
  t2 := Tryz.underlying2
  a2 := Tryz.isAgg2
  z2 := Tryz.sizeOf2
  v2 := Tryz.zeroValue2
  t3 := Tryz.underlying3
  a3 := Tryz.isAgg3
  z3 := Tryz.sizeOf3
  v3 := Tryz.zeroValue3
  t4 := Tryz.underlying4
  a4 := Tryz.isAgg4
  z4 := Tryz.sizeOf4
  v4 := Tryz.zeroValue4
  t5 := Tryz.underlying5
  a5 := Tryz.isAgg5
  z5 := Tryz.sizeOf5
  v5 := Tryz.zeroValue5
  t9 := Tryz.underlying9
  a9 := Tryz.isAgg9
  z9 := Tryz.sizeOf9
  v9 := Tryz.zeroValue9
  t20 := Tryz.underlying20
  a20 := Tryz.isAgg20
  z20 := Tryz.sizeOf20
  v20 := Tryz.zeroValue20
  t37 := Tryz.underlying54
  a37 := Tryz.isAgg54
  z37 := Tryz.sizeOf54
  v37 := Tryz.zeroValue54
  t46 := Tryz.underlying84
  a46 := Tryz.isAgg84
  z46 := Tryz.sizeOf84
  v46 := Tryz.zeroValue84
  t51 := Tryz.underlying42
  a51 := Tryz.isAgg42
  z51 := Tryz.sizeOf42
  v51 := Tryz.zeroValue42
  t53 := Tryz.underlying100
  a53 := Tryz.isAgg100
  z53 := Tryz.sizeOf100
  v53 := Tryz.zeroValue100
  t171 := Tryz.underlying104
  a171 := Tryz.isAgg104
  z171 := Tryz.sizeOf104
  v171 := Tryz.zeroValue104
  t173 := Tryz.underlying107
  a173 := Tryz.isAgg107
  z173 := Tryz.sizeOf107
  v173 := Tryz.zeroValue107
  t212 := Tryz.underlying130
  a212 := Tryz.isAgg130
  z212 := Tryz.sizeOf130
  v212 := Tryz.zeroValue130
  t213 := Tryz.underlying131
  a213 := Tryz.isAgg131
  z213 := Tryz.sizeOf131
  t232 := Tryz.underlying161
  a232 := Tryz.isAgg161
  z232 := Tryz.sizeOf161
  v232 := Tryz.zeroValue161
  t233 := Tryz.underlying162
  a233 := Tryz.isAgg162
  z233 := Tryz.sizeOf162
  v233 := Tryz.zeroValue162
  g17 := by kernel_rfl
  g18 := by kernel_rfl
  g19 := by kernel_rfl
  i0 := by kernel_rfl
  i2 := by kernel_rfl
  i3 := by kernel_rfl
  i4 := by kernel_rfl
  i5 := by kernel_rfl
  i9 := by kernel_rfl
  i20 := by kernel_rfl
  i37 := by kernel_rfl
  i46 := by kernel_rfl
  i51 := by kernel_rfl
  i53 := by kernel_rfl
  i171 := by kernel_rfl
  i173 := by kernel_rfl
  i212 := by kernel_rfl
  i232 := by kernel_rfl
  i233 := by kernel_rfl
  m17 := by kernel_rfl
  m18 := by kernel_rfl
  m19 := by kernel_rfl }
open Go.RowKit Go.Sort Go.Lib in
theorem Tryz.strconv_FormatInt_10 (n : Int) (h0 : -9223372036854775808 ≤ n) (h1 : n ≤ 9223372036854775807) (w : World) (htab : Lib.TabIs Tryz.prog w "internal/strconv.uint64pow10" .u64 Lib.pow10Tab) :
    Calls Tryz.prog 31 #[.int .i64 n, .int .i64 10] w fun e w' => e = .returned (.string ⟨(Lib.itoa n).toArray⟩) ∧ ∃ k os, w' = grow (w.drewN k) os := Any.strconv_FormatInt_10 Tryz.laysM173 n h0 h1 w htab
def Tryz.laysPu14_ren : Go.Shelf.Ren := ⟨fun | 14 => 113 | 16 => 128 | 17 => 129 | 19 => 137 | 20 => 138 | 21 => 139 | 22 => 140 | 23 => 141 | 24 => 142 | 25 => 144 | 27 => 146 | 26 => 145 | 28 => 147 | 29 => 66 | 30 => 91 | 31 => 92 | 32 => 93 | 33 => 94 | 35 => 116 | 34 => 115 | 36 => 117 | 37 => 118 | 38 => 119 | 39 => 130 | 40 => 131 | n => n, fun | 9 => 9 | 3 => 3 | 22 => 100 | 24 => 76 | 25 => 125 | 4 => 4 | 34 => 156 | 5 => 5 | 36 => 84 | 37 => 54 | 0 => 0 | 39 => 158 | 21 => 21 | 44 => 169 | 47 => 95 | 50 => 173 | 48 => 171 | 2 => 2 | 52 => 104 | 55 => 107 | 59 => 130 | 60 => 42 | 20 => 20 | 61 => 131 | 65 => 161 | 66 => 162 | 67 => 80 | n => n, fun | 0 => 8 | 1 => 9 | 2 => 2 | 3 => 4 | 4 => 5 | n => n⟩
theorem Tryz.laysPu14 : Go.Proofs.LaysPu.n14 Tryz.prog Tryz.laysPu14_ren := {
  mixed := by kernel_rfl
  f14 := Tryz.func113.trans (congrArg some (by kernel_rfl))
  f16 := Tryz.func128.trans (congrArg some (by kernel_rfl))
  f17 := Tryz.func129.trans (congrArg some (by kernel_rfl))
  f19 := Tryz.func137.trans (congrArg some (by kernel_rfl))
  f20 := Tryz.func138.trans (congrArg some (by kernel_rfl))
  f21 := Tryz.func139.trans (congrArg some (by kernel_rfl))
  f22 := Tryz.func140.trans (congrArg some (by kernel_rfl))
  f23 := Tryz.func141.trans (congrArg some (by kernel_rfl))
  f24 := Tryz.func142.trans (congrArg some (by kernel_rfl))
  f25 := Tryz.func144.trans (congrArg some (by kernel_rfl))
  f26 := Tryz.func145.trans (congrArg some (by kernel_rfl))
  f27 := Tryz.func146.trans (congrArg some (by kernel_rfl))
  f28 := Tryz.func147.trans (congrArg some (by kernel_rfl))
  f29 := Tryz.func66.trans (congrArg some (by kernel_rfl))
  f30 := Tryz.func91.trans (congrArg some (by kernel_rfl))
  f31 := Tryz.func92.trans (congrArg some (by kernel_rfl))
  f32 := Tryz.func93.trans (congrArg some (by kernel_rfl))
  f33 := Tryz.func94.trans (congrArg some (by kernel_rfl))
  f34 := Tryz.func115.trans (congrArg some (by kernel_rfl))
  f35 := Tryz.func116.trans (congrArg some (by kernel_rfl))
  f36 := Tryz.func117.trans (congrArg some (by kernel_rfl))
  f37 := Tryz.func118.trans (congrArg some (by kernel_rfl))
  f38 := Tryz.func119.trans (congrArg some (by kernel_rfl))
  f39 := Tryz.func130.trans (congrArg some (by kernel_rfl))
  f40 := Tryz.func131.trans (congrArg some (by kernel_rfl))
  t0 := Tryz.underlying0
  a0 := Tryz.isAgg0
  z0 := Tryz.sizeOf0
  v0 := Tryz.zeroValue0
  i0 := by kernel_rfl
  t2 := Tryz.underlying2
  a2 := Tryz.isAgg2
  z2 := Tryz.sizeOf2
  v2 := Tryz.zeroValue2
  i2 := by kernel_rfl
  t3 := Tryz.underlying3
  a3 := Tryz.isAgg3
  z3 := Tryz.sizeOf3
  v3 := Tryz.zeroValue3
  i3 := by kernel_rfl
  t4 := Tryz.underlying4
  a4 := Tryz.isAgg4
  z4 := Tryz.sizeOf4
  v4 := Tryz.zeroValue4
  i4 := by kernel_rfl
  t5 := Tryz.underlying5
  a5 := Tryz.isAgg5
  z5 := Tryz.sizeOf5
  v5 := Tryz.zeroValue5
  i5 := by kernel_rfl
  t9 := Tryz.underlying9
  a9 := Tryz.isAgg9
  z9 := Tryz.sizeOf9
  v9 := Tryz.zeroValue9
  i9 := by kernel_rfl
  t20 := Tryz.underlying20
  a20 := Tryz.isAgg20
  z20 := Tryz.sizeOf20
  v20 := Tryz.zeroValue20
  i20 := by kernel_rfl
  t21 := Tryz.underlying21
  a21 := Tryz.isAgg21
  z21 := Tryz.sizeOf21
  v21 := Tryz.zeroValue21
  i21 := by kernel_rfl
  t22 := Tryz.underlying100
  a22 := Tryz.isAgg100
  z22 := Tryz.sizeOf100
  v22 := Tryz.zeroValue100
  i22 := by kernel_rfl
  t24 := Tryz.underlying76
  a24 := Tryz.isAgg76
  z24 := Tryz.sizeOf76
  v24 := Tryz.zeroValue76
  i24 := by kernel_rfl
  t25 := Tryz.underlying125
  a25 := Tryz.isAgg125
  z25 := Tryz.sizeOf125
  v25 := Tryz.zeroValue125
  i25 := by kernel_rfl
  t34 := Tryz.underlying156
  a34 := Tryz.isAgg156
  z34 := Tryz.sizeOf156
  v34 := Tryz.zeroValue156
  i34 := by kernel_rfl
  c34 := by kernel_rfl
  t36 := Tryz.underlying84
  a36 := Tryz.isAgg84
  z36 := Tryz.sizeOf84
  v36 := Tryz.zeroValue84
  i36 := by kernel_rfl
  t37 := Tryz.underlying54
  a37 := Tryz.isAgg54
  z37 := Tryz.sizeOf54
  v37 := Tryz.zeroValue54
  i37 := by kernel_rfl
  t39 := Tryz.underlying158
  a39 := Tryz.isAgg158
  z39 := Tryz.sizeOf158
  v39 := Tryz.zeroValue158
  i39 := by kernel_rfl
  t44 := Tryz.underlying169
  a44 := Tryz.isAgg169
  z44 := Tryz.sizeOf169
  v44 := Tryz.zeroValue169
  i44 := by kernel_rfl
  t47 := Tryz.underlying95
  a47 := Tryz.isAgg95
  z47 := Tryz.sizeOf95
  v47 := Tryz.zeroValue95
  i47 := by kernel_rfl
  t48 := Tryz.underlying171
  a48 := Tryz.isAgg171
  z48 := Tryz.sizeOf171
  v48 := Tryz.zeroValue171
  i48 := by kernel_rfl
  t50 := Tryz.underlying173
  a50 := Tryz.isAgg173
  z50 := Tryz.sizeOf173
  v50 := Tryz.zeroValue173
  i50 := by kernel_rfl
  t52 := Tryz.underlying104
  a52 := Tryz.isAgg104
  z52 := Tryz.sizeOf104
  v52 := Tryz.zeroValue104
  i52 := by kernel_rfl
  t55 := Tryz.underlying107
  a55 := Tryz.isAgg107
  z55 := Tryz.sizeOf107
  v55 := Tryz.zeroValue107
  i55 := by kernel_rfl
  t59 := Tryz.underlying130
  a59 := Tryz.isAgg130
  z59 := Tryz.sizeOf130
  v59 := Tryz.zeroValue130
  i59 := by kernel_rfl
  t60 := Tryz.underlying42
  a60 := Tryz.isAgg42
  z60 := Tryz.sizeOf42
  v60 := Tryz.zeroValue42
  i60 := by kernel_rfl
  t61 := Tryz.underlying131
  a61 := Tryz.isAgg131
  z61 := Tryz.sizeOf131
  t65 := Tryz.underlying161
  a65 := Tryz.isAgg161
  z65 := Tryz.sizeOf161
  v65 := Tryz.zeroValue161
  i65 := by kernel_rfl
  t66 := Tryz.underlying162
  a66 := Tryz.isAgg162
  z66 := Tryz.sizeOf162
  v66 := Tryz.zeroValue162
  i66 := by kernel_rfl
  t67 := Tryz.underlying80
  a67 := Tryz.isAgg80
  z67 := Tryz.sizeOf80
  v67 := Tryz.zeroValue80
  i67 := by kernel_rfl
  g0 := by kernel_rfl
  m0 := by kernel_rfl
  g1 := by kernel_rfl
  m1 := by kernel_rfl
  g2 := by kernel_rfl
  m2 := by kernel_rfl
  g3 := by kernel_rfl
  m3 := by kernel_rfl
  g4 := by kernel_rfl
  m4 := by kernel_rfl }
open Go.RowKit in
theorem Tryz.strconv_ParseUint_10_at32_ok (s : ByteArray) (hmax : s.size ≤ 9223372036854775806) (u : Nat) (h : Lib.parseUintB 32 s.data.toList = .ok u) (w : World) :
    Calls Tryz.prog 113 #[.string s, .int .i64 10, .int .i64 32] w fun e w' => e = .returned (.tuple #[.int .u64 u, .nilIface]) ∧ (w' = w ∨ w' = Lib.bytesWorld w 5 s) := Any.strconv_ParseUint_10_at32_ok Tryz.laysPu14 s hmax u h w
open Go.RowKit in
theorem Tryz.strconv_ParseUint_10_at32_syntax (s : ByteArray) (hlim : s.size ≤ 281474976710656) (h : Lib.parseUintB 32 s.data.toList = .syntax) (ev : Value) (w : World) (hv : w.cell? ⟨8, 0, none⟩ = some ev) (hev : ev = .nilIface ∨ ∃ te pe, ev = .iface te pe) :
    Calls Tryz.prog 113 #[.string s, .int .i64 10, .int .i64 32] w fun e w' => ∃ N, e = .returned (.tuple #[.int .u64 0, .iface 158 (.pointer (some ⟨N, 0, none⟩))]) ∧ w.heap.size ≤ N ∧ w'.heap[N]? = some (.cells #[.string ⟨#[80, 97, 114, 115, 101, 85, 105, 110, 116]⟩, .string s, ev] 169 (0, 0)) ∧ Below w.heap.size w w' := Any.strconv_ParseUint_10_at32_syntax Tryz.laysPu14 s hlim h ev w hv hev
open Go.RowKit in
theorem Tryz.strconv_ParseUint_10_at32_range (s : ByteArray) (hlim : s.size ≤ 281474976710656) (h : Lib.parseUintB 32 s.data.toList = .range) (ev : Value) (w : World) (hv : w.cell? ⟨9, 0, none⟩ = some ev) (hev : ev = .nilIface ∨ ∃ te pe, ev = .iface te pe) :
    Calls Tryz.prog 113 #[.string s, .int .i64 10, .int .i64 32] w fun e w' => ∃ N, e = .returned (.tuple #[.int .u64 4294967295, .iface 158 (.pointer (some ⟨N, 0, none⟩))]) ∧ w.heap.size ≤ N ∧ w'.heap[N]? = some (.cells #[.string ⟨#[80, 97, 114, 115, 101, 85, 105, 110, 116]⟩, .string s, ev] 169 (0, 0)) ∧ Below w.heap.size w w' := Any.strconv_ParseUint_10_at32_range Tryz.laysPu14 s hlim h ev w hv hev
def Tryz.lays144_ren : Go.Shelf.Ren := ⟨fun | 144 => 50 | 143 => 70 | 219 => 98 | 217 => 103 | 225 => 120 | 224 => 121 | 267 => 122 | 266 => 125 | 314 => 132 | n => n, fun | 9 => 9 | 4 => 4 | 3 => 3 | 5 => 5 | 46 => 84 | 146 => 98 | 51 => 42 | n => n, fun | 1 => 0 | n => n⟩
theorem Tryz.lays144 : Go.Proofs.Lays.n144 Tryz.prog Tryz.lays144_ren := {
  mixed := by kernel_rfl
  f143 := Tryz.func70.trans (congrArg some (by kernel_rfl))
  f144 := Tryz.func50.trans (congrArg some (by kernel_rfl))
  f217 := Tryz.func103.trans (congrArg some (by kernel_rfl))
  f219 := Tryz.func98.trans (congrArg some (by kernel_rfl))
  f224 := Tryz.func121.trans (congrArg some (by kernel_rfl))
  f225 := Tryz.func120.trans (congrArg some (by kernel_rfl))
  f266 := Tryz.func125.trans (congrArg some (by kernel_rfl))
  f267 := Tryz.func122.trans (congrArg some (by kernel_rfl))
  f314 := Tryz.func132.trans (congrArg some (by kernel_rfl))
  t3 := Tryz.underlying3
  a3 := Tryz.isAgg3
  z3 := Tryz.sizeOf3
  v3 := Tryz.zeroValue3
  t4 := Tryz.underlying4
  a4 := Tryz.isAgg4
  z4 := Tryz.sizeOf4
  v4 := Tryz.zeroValue4
  t5 := Tryz.underlying5
  a5 := Tryz.isAgg5
  z5 := Tryz.sizeOf5
  v5 := Tryz.zeroValue5
  t9 := Tryz.underlying9
  a9 := Tryz.isAgg9
  z9 := Tryz.sizeOf9
  v9 := Tryz.zeroValue9
  t46 := Tryz.underlying84
  a46 := Tryz.isAgg84
  z46 := Tryz.sizeOf84
  v46 := Tryz.zeroValue84
  t51 := Tryz.underlying42
  a51 := Tryz.isAgg42
  z51 := Tryz.sizeOf42
  v51 := Tryz.zeroValue42
  t146 := Tryz.underlying98
  a146 := Tryz.isAgg98
  z146 := Tryz.sizeOf98
  v146 := Tryz.zeroValue98
  g1 := by kernel_rfl }
open Go.RowKit Go.Lib in
theorem Tryz.strings_Contains_one (s : ByteArray) (c : UInt8) (w : World) :
    Calls Tryz.prog 50 #[.string s, .string ⟨#[c]⟩] w fun e w' => e = .returned (.bool (decide (0 ≤ Lib.indexByte s.data.toList c))) ∧ w' = w := Any.strings_Contains_one Tryz.lays144 s c w
open Go.RowKit Go.Lib in
theorem Tryz.strings_Contains (s sub : ByteArray) (m : Int) (w : World) (hs : s.size < 4294967281) (hm : w.cell? ⟨0, 0, none⟩ = some (.int .i64 m)) :
    Calls Tryz.prog 50 #[.string s, .string sub] w fun e w' => e = .returned (.bool (Lib.contains s.data.toList sub.data.toList)) ∧ w' = w := Any.strings_Contains Tryz.lays144 s sub m w hs hm
def Tryz.lays138_ren : Go.Shelf.Ren := ⟨fun | 138 => 38 | 195 => 68 | 218 => 69 | 143 => 70 | 219 => 98 | 217 => 103 | 225 => 120 | 224 => 121 | 267 => 122 | 266 => 125 | 314 => 132 | n => n, fun | 9 => 9 | 3 => 3 | 4 => 4 | 5 => 5 | 0 => 0 | 46 => 84 | 146 => 98 | 51 => 42 | n => n, fun | 1 => 0 | n => n⟩
theorem Tryz.lays138 : Go.Proofs.Lays.n138 Tryz.prog Tryz.lays138_ren := {
  mixed := by kernel_rfl
  f138 := Tryz.func38.trans (congrArg some (by kernel_rfl))
  f143 := Tryz.func70.trans (congrArg some (by kernel_rfl))
  f195 := Tryz.func68.trans (congrArg some (by kernel_rfl))
  f217 := Tryz.func103.trans (congrArg some (by kernel_rfl))
  f218 := Tryz.func69.trans (congrArg some (by kernel_rfl))
  f219 := Tryz.func98.trans (congrArg some (by kernel_rfl))
  f224 := Tryz.func121.trans (congrArg some (by kernel_rfl))
  f225 := Tryz.func120.trans (congrArg some (by kernel_rfl))
  f266 := Tryz.func125.trans (congrArg some (by kernel_rfl))
  f267 := Tryz.func122.trans (congrArg some (by kernel_rfl))
  f314 := Tryz.func132.trans (congrArg some (by kernel_rfl))
  t0 := Tryz.underlying0
  a0 := Tryz.isAgg0
  z0 := Tryz.sizeOf0
  v0 := Tryz.zeroValue0
  t3 := Tryz.underlying3
  a3 := Tryz.isAgg3
  z3 := Tryz.sizeOf3
  v3 := Tryz.zeroValue3
  t4 := Tryz.underlying4
  a4 := Tryz.isAgg4
  z4 := Tryz.sizeOf4
  v4 := Tryz.zeroValue4
  t5 := Tryz.underlying5
  a5 := Tryz.isAgg5
  z5 := Tryz.sizeOf5
  v5 := Tryz.zeroValue5
  t9 := Tryz.underlying9
  a9 := Tryz.isAgg9
  z9 := Tryz.sizeOf9
  v9 := Tryz.zeroValue9
  t46 := Tryz.underlying84
  a46 := Tryz.isAgg84
  z46 := Tryz.sizeOf84
  v46 := Tryz.zeroValue84
  t51 := Tryz.underlying42
  a51 := Tryz.isAgg42
  z51 := Tryz.sizeOf42
  v51 := Tryz.zeroValue42
  t146 := Tryz.underlying98
  a146 := Tryz.isAgg98
  z146 := Tryz.sizeOf98
  v146 := Tryz.zeroValue98
  g1 := by kernel_rfl }
open Go.RowKit Go.Lib in
theorem Tryz.strings_Count_one (s : ByteArray) (c : UInt8) (w : World) :
    Calls Tryz.prog 38 #[.string s, .string ⟨#[c]⟩] w fun e w' => e = .returned (.int .i64 (Lib.countByte s.data.toList c)) ∧ w' = w := Any.strings_Count_one Tryz.lays138 s c w
def Tryz.lays99_ren : Go.Shelf.Ren := ⟨fun | 99 => 64 | 206 => 89 | n => n, fun | 9 => 9 | 4 => 4 | 3 => 3 | n => n, fun | n => n⟩
theorem Tryz.lays99 : Go.Proofs.Lays.n99 Tryz.prog Tryz.lays99_ren := {
  mixed := by kernel_rfl
  f99 := Tryz.func64.trans (congrArg some (by kernel_rfl))
  f206 := Tryz.func89.trans (congrArg some (by kernel_rfl))
  t3 := Tryz.underlying3
  a3 := Tryz.isAgg3
  z3 := Tryz.sizeOf3
  v3 := Tryz.zeroValue3
  t4 := Tryz.underlying4
  a4 := Tryz.isAgg4
  z4 := Tryz.sizeOf4
  v4 := Tryz.zeroValue4
  t9 := Tryz.underlying9
  a9 := Tryz.isAgg9
  z9 := Tryz.sizeOf9
  v9 := Tryz.zeroValue9 }
open Go.RowKit Go.Lib in
theorem Tryz.strings_HasPrefix (s p : ByteArray) (w : World) :
    Calls Tryz.prog 64 #[.string s, .string p] w fun e w' => e = .returned (.bool (Lib.hasPrefix s.data.toList p.data.toList)) ∧ w' = w := Any.strings_HasPrefix Tryz.lays99 s p w
def Tryz.lays146_ren : Go.Shelf.Ren := ⟨fun | 146 => 40 | 221 => 71 | 268 => 99 | 138 => 38 | 143 => 70 | 195 => 68 | 197 => 123 | 218 => 69 | 219 => 98 | 260 => 133 | 217 => 103 | 225 => 120 | 224 => 121 | 267 => 122 | 266 => 125 | 314 => 132 | n => n, fun | 9 => 9 | 31 => 56 | 3 => 3 | 4 => 4 | 0 => 0 | 105 => 134 | 21 => 21 | 5 => 5 | 46 => 84 | 119 => 111 | 139 => 165 | 138 => 164 | 146 => 98 | 51 => 42 | n => n, fun | 1 => 0 | 3 => 6 | 4 => 7 | n => n⟩
theorem Tryz.lays146 : Go.Proofs.Lays.n146 Tryz.prog Tryz.lays146_ren := {
  mixed := by kernel_rfl
  f138 := Tryz.func38.trans (congrArg some (by kernel_rfl))
  f143 := Tryz.func70.trans (congrArg some (by kernel_rfl))
  f146 := Tryz.func40.trans (congrArg some (by kernel_rfl))
  f195 := Tryz.func68.trans (congrArg some (by kernel_rfl))
  f197 := Tryz.func123.trans (congrArg some (by kernel_rfl))
  f217 := Tryz.func103.trans (congrArg some (by kernel_rfl))
  f218 := Tryz.func69.trans (congrArg some (by kernel_rfl))
  f219 := Tryz.func98.trans (congrArg some (by kernel_rfl))
  f221 := Tryz.func71.trans (congrArg some (by kernel_rfl))
  f224 := Tryz.func121.trans (congrArg some (by kernel_rfl))
  f225 := Tryz.func120.trans (congrArg some (by kernel_rfl))
  f260 := Tryz.func133.trans (congrArg some (by kernel_rfl))
  f266 := Tryz.func125.trans (congrArg some (by kernel_rfl))
  f267 := Tryz.func122.trans (congrArg some (by kernel_rfl))
  f268 := Tryz.func99.trans (congrArg some (by kernel_rfl))
  f314 := Tryz.func132.trans (congrArg some (by kernel_rfl))
  t0 := Tryz.underlying0
  a0 := Tryz.isAgg0
  z0 := Tryz.sizeOf0
  v0 := Tryz.zeroValue0
  t3 := Tryz.underlying3
  a3 := Tryz.isAgg3
  z3 := Tryz.sizeOf3
  v3 := Tryz.zeroValue3
  t4 := Tryz.underlying4
  a4 := Tryz.isAgg4
  z4 := Tryz.sizeOf4
  v4 := Tryz.zeroValue4
  t5 := Tryz.underlying5
  a5 := Tryz.isAgg5
  z5 := Tryz.sizeOf5
  v5 := Tryz.zeroValue5
  t9 := Tryz.underlying9
  a9 := Tryz.isAgg9
  z9 := Tryz.sizeOf9
  v9 := Tryz.zeroValue9
  t21 := Tryz.underlying21
  a21 := Tryz.isAgg21
  z21 := Tryz.sizeOf21
  v21 := Tryz.zeroValue21
  t31 := Tryz.underlying56
  a31 := Tryz.isAgg56
  z31 := Tryz.sizeOf56
  v31 := Tryz.zeroValue56
  t46 := Tryz.underlying84
  a46 := Tryz.isAgg84
  z46 := Tryz.sizeOf84
  v46 := Tryz.zeroValue84
  t51 := Tryz.underlying42
  a51 := Tryz.isAgg42
  z51 := Tryz.sizeOf42
  v51 := Tryz.zeroValue42
  t105 := Tryz.underlying134
  a105 := Tryz.isAgg134
  z105 := Tryz.sizeOf134
  v105 := Tryz.zeroValue134
  t119 := Tryz.underlying111
  a119 := Tryz.isAgg111
  z119 := Tryz.sizeOf111
  t138 := Tryz.underlying164
  a138 := Tryz.isAgg164
  z138 := Tryz.sizeOf164
  v138 := Tryz.zeroValue164
  t139 := Tryz.underlying165
  a139 := Tryz.isAgg165
  z139 := Tryz.sizeOf165
  v139 := Tryz.zeroValue165
  t146 := Tryz.underlying98
  a146 := Tryz.isAgg98
  z146 := Tryz.sizeOf98
  v146 := Tryz.zeroValue98
  g1 := by kernel_rfl
  g3 := by kernel_rfl
  g4 := by kernel_rfl }
open Go.RowKit Go.Lib in
theorem Tryz.strings_Split (s sep : ByteArray) (m : Int) (w : World) (hs : s.size < 4294967281) (hm : w.cell? ⟨0, 0, none⟩ = some (.int .i64 m)) (h1 : 1 ≤ sep.size) :
    Calls Tryz.prog 40 #[.string s, .string sep] w fun e w' =>
      e = .returned (.slice (some ⟨w.heap.size, 0, none⟩) (Lib.countB s sep + 1) (Lib.countB s sep + 1)) ∧ w' = w.alloc (.cells ((Lib.splitB sep 0 (Lib.countB s sep) s).map Value.string).toArray 9) := Any.strings_Split Tryz.lays146 (by kernel_rfl) s sep m w hs hm h1
def Tryz.lays157_ren : Go.Shelf.Ren := ⟨fun | 157 => 76 | 229 => 101 | 199 => 102 | 261 => 124 | 311 => 134 | 312 => 135 | n => n, fun | 9 => 9 | 31 => 56 | 3 => 3 | 5 => 5 | 4 => 4 | 119 => 111 | 0 => 0 | 40 => 113 | 152 => 136 | 21 => 21 | 154 => 138 | 51 => 42 | 141 => 140 | 196 => 148 | 193 => 145 | 198 => 150 | 49 => 53 | 194 => 146 | 201 => 153 | 226 => 166 | 46 => 84 | 227 => 167 | n => n, fun | 0 => 1 | 6 => 3 | n => n⟩
theorem Tryz.lays157 : Go.Proofs.Lays.n157 Tryz.prog Tryz.lays157_ren := {
  mixed := by kernel_rfl
  f157 := Tryz.func76.trans (congrArg some (by kernel_rfl))
  f199 := Tryz.func102.trans (congrArg some (by kernel_rfl))
  f229 := Tryz.func101.trans (congrArg some (by kernel_rfl))
  f261 := Tryz.func124.trans (congrArg some (by kernel_rfl))
  f311 := Tryz.func134.trans (congrArg some (by kernel_rfl))
  f312 := Tryz.func135.trans (congrArg some (by kernel_rfl))
  t0 := Tryz.underlying0
  a0 := Tryz.isAgg0
  z0 := Tryz.sizeOf0
  v0 := Tryz.zeroValue0
  t3 := Tryz.underlying3
  a3 := Tryz.isAgg3
  z3 := Tryz.sizeOf3
  v3 := Tryz.zeroValue3
  t4 := Tryz.underlying4
  a4 := Tryz.isAgg4
  z4 := Tryz.sizeOf4
  v4 := Tryz.zeroValue4
  t5 := Tryz.underlying5
  a5 := Tryz.isAgg5
  z5 := Tryz.sizeOf5
  v5 := Tryz.zeroValue5
  t9 := Tryz.underlying9
  a9 := Tryz.isAgg9
  z9 := Tryz.sizeOf9
  v9 := Tryz.zeroValue9
  t21 := Tryz.underlying21
  a21 := Tryz.isAgg21
  z21 := Tryz.sizeOf21
  v21 := Tryz.zeroValue21
  t31 := Tryz.underlying56
  a31 := Tryz.isAgg56
  z31 := Tryz.sizeOf56
  v31 := Tryz.zeroValue56
  t40 := Tryz.underlying113
  a40 := Tryz.isAgg113
  z40 := Tryz.sizeOf113
  v40 := Tryz.zeroValue113
  t46 := Tryz.underlying84
  a46 := Tryz.isAgg84
  z46 := Tryz.sizeOf84
  v46 := Tryz.zeroValue84
  t49 := Tryz.underlying53
  a49 := Tryz.isAgg53
  z49 := Tryz.sizeOf53
  v49 := Tryz.zeroValue53
  t51 := Tryz.underlying42
  a51 := Tryz.isAgg42
  z51 := Tryz.sizeOf42
  v51 := Tryz.zeroValue42
  t119 := Tryz.underlying111
  a119 := Tryz.isAgg111
  z119 := Tryz.sizeOf111
  t141 := Tryz.underlying140
  a141 := Tryz.isAgg140
  z141 := Tryz.sizeOf140
  v141 := Tryz.zeroValue140
  t152 := Tryz.underlying136
  a152 := Tryz.isAgg136
  z152 := Tryz.sizeOf136
  v152 := Tryz.zeroValue136
  t154 := Tryz.underlying138
  a154 := Tryz.isAgg138
  z154 := Tryz.sizeOf138
  v154 := Tryz.zeroValue138
  t193 := Tryz.underlying145
  a193 := Tryz.isAgg145
  z193 := Tryz.sizeOf145
  v193 := Tryz.zeroValue145
  t194 := Tryz.underlying146
  a194 := Tryz.isAgg146
  z194 := Tryz.sizeOf146
  v194 := Tryz.zeroValue146
  t196 := Tryz.underlying148
  a196 := Tryz.isAgg148
  z196 := Tryz.sizeOf148
  v196 := Tryz.zeroValue148
  t198 := Tryz.underlying150
  a198 := Tryz.isAgg150
  z198 := Tryz.sizeOf150
  v198 := Tryz.zeroValue150
  t201 := Tryz.underlying153
  a201 := Tryz.isAgg153
  z201 := Tryz.sizeOf153
  v201 := Tryz.zeroValue153
  t226 := Tryz.underlying166
  a226 := Tryz.isAgg166
  z226 := Tryz.sizeOf166
  v226 := Tryz.zeroValue166
  t227 := Tryz.underlying167
  a227 := Tryz.isAgg167
  z227 := Tryz.sizeOf167
  v227 := Tryz.zeroValue167
  g0 := by kernel_rfl
  g6 := by kernel_rfl }
open Go.RowKit Go.Lib in
theorem Tryz.strings_Fields (s : ByteArray) (w : World) (hs : s.size < 4294967281) (hascii : ∀ (j : Nat) b, s.data.toList[j]? = some b → b.toNat < 128) (htab : Lib.TabIs Tryz.prog w "strings.asciiSpace" .u8 Lib.asciiSpaceTab) :
    Calls Tryz.prog 76 #[.string s] w fun e w' =>
      e = .returned (.slice (some ⟨w.heap.size, 0, none⟩) (Lib.fields s.data.toList).length (Lib.fields s.data.toList).length) ∧ w' = w.alloc (.cells ((Lib.fields s.data.toList).map fun l => Value.string ⟨l.toArray⟩).toArray 9) := Any.strings_Fields Tryz.lays157 (by kernel_rfl) (by kernel_rfl) s w hs hascii htab
def Tryz.lays105_ren : Go.Shelf.Ren := ⟨fun | 105 => 30 | 212 => 63 | 99 => 64 | 165 => 65 | 166 => 59 | 170 => 60 | 169 => 61 | 263 => 87 | 264 => 88 | 206 => 89 | 240 => 82 | 241 => 90 | 276 => 108 | 277 => 114 | n => n, fun | 9 => 9 | 3 => 3 | 4 => 4 | 20 => 20 | 0 => 0 | 46 => 84 | 109 => 85 | 5 => 5 | 72 => 74 | 76 => 77 | 51 => 42 | 146 => 98 | 53 => 100 | 148 => 101 | 70 => 72 | 37 => 54 | 75 => 76 | 127 => 95 | 164 => 116 | 80 => 80 | n => n, fun | n => n⟩
theorem Tryz.lays105 : Go.Proofs.Lays.n105 Tryz.prog Tryz.lays105_ren := {
  mixed := by kernel_rfl
  f99 := Tryz.func64.trans (congrArg some (by kernel_rfl))
  f105 := Tryz.func30.trans (congrArg some (by kernel_rfl))
  f165 := Tryz.func65.trans (congrArg some (by kernel_rfl))
  f166 := Tryz.func59.trans (congrArg some (by kernel_rfl))
  f169 := Tryz.func61.trans (congrArg some (by kernel_rfl))
  f170 := Tryz.func60.trans (congrArg some (by kernel_rfl))
  f206 := Tryz.func89.trans (congrArg some (by kernel_rfl))
  f212 := Tryz.func63.trans (congrArg some (by kernel_rfl))
  f240 := Tryz.func82.trans (congrArg some (by kernel_rfl))
  f241 := Tryz.func90.trans (congrArg some (by kernel_rfl))
  f263 := Tryz.func87.trans (congrArg some (by kernel_rfl))
  f264 := Tryz.func88.trans (congrArg some (by kernel_rfl))
  f276 := Tryz.func108.trans (congrArg some (by kernel_rfl))
  f277 := Tryz.func114.trans (congrArg some (by kernel_rfl))
  t0 := Tryz.underlying0
  a0 := Tryz.isAgg0
  z0 := Tryz.sizeOf0
  v0 := Tryz.zeroValue0
  t3 := Tryz.underlying3
  a3 := Tryz.isAgg3
  z3 := Tryz.sizeOf3
  v3 := Tryz.zeroValue3
  t4 := Tryz.underlying4
  a4 := Tryz.isAgg4
  z4 := Tryz.sizeOf4
  v4 := Tryz.zeroValue4
  t5 := Tryz.underlying5
  a5 := Tryz.isAgg5
  z5 := Tryz.sizeOf5
  v5 := Tryz.zeroValue5
  t9 := Tryz.underlying9
  a9 := Tryz.isAgg9
  z9 := Tryz.sizeOf9
  v9 := Tryz.zeroValue9
  t20 := Tryz.underlying20
  a20 := Tryz.isAgg20
  z20 := Tryz.sizeOf20
  v20 := Tryz.zeroValue20
  t37 := Tryz.underlying54
  a37 := Tryz.isAgg54
  z37 := Tryz.sizeOf54
  v37 := Tryz.zeroValue54
  t46 := Tryz.underlying84
  a46 := Tryz.isAgg84
  z46 := Tryz.sizeOf84
  v46 := Tryz.zeroValue84
  t51 := Tryz.underlying42
  a51 := Tryz.isAgg42
  z51 := Tryz.sizeOf42
  v51 := Tryz.zeroValue42
  t53 := Tryz.underlying100
  a53 := Tryz.isAgg100
  z53 := Tryz.sizeOf100
  v53 := Tryz.zeroValue100
  t70 := Tryz.underlying72
  a70 := Tryz.isAgg72
  z70 := Tryz.sizeOf72
  v70 := Tryz.zeroValue72
  t72 := Tryz.underlying74
  a72 := Tryz.isAgg74
  z72 := Tryz.sizeOf74
  v72 := Tryz.zeroValue74
  t75 := Tryz.underlying76
  a75 := Tryz.isAgg76
  z75 := Tryz.sizeOf76
  v75 := Tryz.zeroValue76
  t76 := Tryz.underlying77
  a76 := Tryz.isAgg77
  z76 := Tryz.sizeOf77
  v76 := Tryz.zeroValue77
  t109 := Tryz.underlying85
  a109 := Tryz.isAgg85
  z109 := Tryz.sizeOf85
  v109 := Tryz.zeroValue85
  t127 := Tryz.underlying95
  a127 := Tryz.isAgg95
  z127 := Tryz.sizeOf95
  v127 := Tryz.zeroValue95
  t146 := Tryz.underlying98
  a146 := Tryz.isAgg98
  z146 := Tryz.sizeOf98
  v146 := Tryz.zeroValue98
  t148 := Tryz.underlying101
  a148 := Tryz.isAgg101
  z148 := Tryz.sizeOf101
  v148 := Tryz.zeroValue101
  t164 := Tryz.underlying116
  a164 := Tryz.isAgg116
  z164 := Tryz.sizeOf116
  v164 := Tryz.zeroValue116 }
theorem Tryz.Builder_Extra_105 : Builder.Extra Tryz.prog Tryz.lays105_ren := {
  sizeBuilder := by kernel_rfl
  liesBuilder := by kernel_rfl
  t5 := Tryz.underlying5
  a5 := Tryz.isAgg5
  z5 := Tryz.sizeOf5
  v5 := Tryz.zeroValue5
  infoByte := by kernel_rfl
  cellsByte := by kernel_rfl
  sizeByte := by kernel_rfl
  neB5 := by decide }
open Go.RowKit Go.Lib in
theorem Tryz.strings_Repeat (s : ByteArray) (c : Nat) (w : World) (hc : c ≤ 9223372036854775807) (hlen : s.size * c ≤ 140737488355328) :
    Calls Tryz.prog 30 #[.string s, .int .i64 c] w fun e w' => e = .returned (.string ⟨(Lib.repeatL s.data.toList c).toArray⟩) ∧ Below w.heap.size w w' := Any.strings_Repeat Tryz.lays105 Tryz.Builder_Extra_105 s c w hc hlen
end Go.Proofs
