/- The data level and the contracts of the functions that are reached (part 1). -/
import Derived.WalkKit
import Derived.OwnWalk
import Derived.RangeFuncNested
import Derived.RangeFuncCalls
import Derived.TacticsIn
import Derived.OrdersIn
set_option linter.unusedSimpArgs false
set_option linter.unusedVariables false
-- THE DATA LEVEL, PART A: values that carry the memory they point to (a string, a slice that nobody writes any more, a pointer into one), states, and what it means that a state of this level describes a state of the model..
namespace Go.Dl
open Go
attribute [go_sem] Nat.reduceEqDiff Nat.reduceAdd Nat.reduceMul Nat.reduceSub Nat.reduceLeDiff reduceCtorEq Int.reduceAdd Int.reduceSub Int.reduceMul Int.reduceNeg Int.reduceToNat List.reduceReplicate String.reduceEq

/-- A value of the data level: 'vptr', 'vslice' carry the cells behind them (memory that is never written again); 'optr', 'oslice', 'omap' name a block of the call's own. -/
inductive DVal where
  | raw (v : Value)
  | bool (b : Bool)
  | int (k : IntKind) (n : Int)
  | str (s : List UInt8)
  | nilPtr
  | vptr (cs : List DVal) (off : Nat)
  | optr (r off : Nat)
  | nilSlice
  | vslice (cs : List DVal) (len : Nat)
  | oslice (sz r off len lo : Nat)
  | nilMap
  | omap (r : Nat)
  | func (fn : Fn) (first captured : List DVal)
  | nilFunc
  | iface (t : TypeId) (v : DVal)
  | nilIface
  | agg (cs : List DVal)
  | tuple (vs : List DVal)
  deriving Inhabited

def DVal.cells : DVal → List DVal
  | .agg cs => cs
  | v => [v]

/-- Is it the value of one cell? -/
def DVal.one : DVal → Bool
  | .agg _ | .tuple _ => false
  | .raw v => v.oneCell'
  | _ => true

inductive DObj where
  | cells (cs : List DVal) (e : TypeId)
  /-- The record of a loop over an iterator: the slots as they were where it began (the record's own 'tmps' are not looked at). -/
  | loop (env : Nat → DVal) (n : Nat) (r : Loop)
  /-- A map: its entries, in the order in which they were laid. -/
  | map (es : List (DVal × DVal))
  /-- A walk through a string's characters. -/
  | iter (s : List UInt8) (pos : Nat)

abbrev DHeap := Nat → Option DObj

def upd {α : Type} (f : Nat → α) (i : Nat) (v : α) : Nat → α := fun j => if j = i then v else f j

/-- A state: the frame's slots, the blocks of the call's own. -/
structure DS where
  env : Nat → DVal
  heap : DHeap

inductive DExit where
  | normal
  | exit (id : Nat)
  | goto (l : Nat)
  | ret
  | panic (v : DVal)

inductive DEnd where
  | ret (v : DVal)
  | panic (v : DVal)

/-- These cells lie one behind the other in a block that is none of the call's own. -/
def CellsAt (w : World) (H : DHeap) (b off : Nat) (xs : List Value) : Prop :=
  xs = [] ∨ (H b = none ∧ ∀ i x, xs[i]? = some x → w.cell? ⟨b, off + i, none⟩ = some x)

/-- How many cells a block has. -/
def csize : Option Obj → Option Nat
  | some (.cells c _ _) => some c.size
  | _ => none

/-- Block r is there, and has at least n cells (if it is a row of cells). -/
def Room (w : World) (r n : Nat) : Prop := r < w.heap.size ∧ ∀ k, csize w.heap[r]? = some k → n ≤ k

mutual
/-- The value of the data level describes the model's value. -/
def Rel (w : World) (H : DHeap) : DVal → Value → Prop
  | .raw x, v => v = x ∧ x.oneCell' = true
  | .bool b, v => v = .bool b
  | .int k n, v => v = .int k n
  | .str s, v => v = .string ⟨⟨s⟩⟩
  | .nilPtr, v => v = .pointer none
  | .vptr cs off, v => ∃ b o xs, v = .pointer (some ⟨b, o + off, none⟩) ∧ CellsAt w H b o xs ∧ RelL w H cs xs
  | .optr r off, v => v = .pointer (some ⟨r, off, none⟩)
  | .nilSlice, v => v = .slice none 0 0
  | .vslice cs len, v => ∃ a cap, v = .slice a len cap ∧ len ≤ cap ∧ (cs = [] ∨ ∃ b o xs, a = some ⟨b, o, none⟩ ∧ CellsAt w H b o xs ∧ RelL w H cs xs)
  | .oslice sz r off len lo, v => ∃ o cap, v = .slice (some ⟨r, o, none⟩) len cap ∧ lo ≤ cap ∧ len ≤ cap ∧ (cap = 0 ∨ o = off) ∧ Room w r (o + cap * sz)
  | .nilMap, v => v = .map none
  | .omap r, v => v = .map (some r)
  | .func fn first captured, v => ∃ xs ys, v = .func fn xs ys ∧ RelL w H first xs.toList ∧ RelL w H captured ys.toList
  | .nilFunc, v => v = .nilFunc
  | .iface t d, v => ∃ x, v = .iface t x ∧ Rel w H d x
  | .nilIface, v => v = .nilIface
  | .agg cs, v => ∃ xs, v = .agg xs ∧ RelL w H cs xs.toList
  | .tuple cs, v => ∃ xs, v = .tuple xs ∧ RelL w H cs xs.toList
def RelL (w : World) (H : DHeap) : List DVal → List Value → Prop
  | [], xs => xs = []
  | d :: ds, xs => ∃ y ys, xs = y :: ys ∧ Rel w H d y ∧ RelL w H ds ys
end

/-- The entries of a map. -/
def RelM (w : World) (H : DHeap) : List (DVal × DVal) → List MapEntry → Prop
  | [], ms => ms = []
  | p :: es, ms => ∃ m ms', ms = m :: ms' ∧ Rel w H p.1 m.key ∧ Rel w H p.2 m.val ∧ RelM w H es ms'

/-- A block of the call's own: its first cells are known; what lies behind them is spare room; none is frozen. -/
def RelObj (w : World) (H : DHeap) : DObj → Option Obj → Prop
  | .cells cs e, o => ∃ xs c fz, o = some (.cells c e fz) ∧ xs <+: c.toList ∧ RelL w H cs xs ∧ ∀ i, i < c.size → ¬ (fz.1 ≤ i ∧ i < fz.2)
  | .loop env n r, o => ∃ tmps, o = some (.loop { r with tmps := tmps }) ∧ tmps.size = n ∧ ∀ i, i < n → Rel w H (env i) (tmps.getD i undef)
  | .map es, o => ∃ ms clock, o = some (.map ms clock) ∧ RelM w H es ms.toList
  | .iter s pos, o => o = some (.stringIter ⟨⟨s⟩⟩ pos)

def SimHeap (w : World) (H : DHeap) : Prop := ∀ r o, H r = some o → RelObj w H o w.heap[r]?

/-- From one world to the next: nothing but the call's own blocks has turned. -/
structure Ext (H : DHeap) (w : World) (H' : DHeap) (w' : World) : Prop where
  os : w'.os = w.os
  tape : w'.tape = w.tape
  output : w'.output = w.output
  size : w.heap.size ≤ w'.heap.size
  block : ∀ b, b < w.heap.size → H b = none → w'.heap[b]? = w.heap[b]?
  own : ∀ b, H' b ≠ none → H b ≠ none ∨ w.heap.size ≤ b
  keep : ∀ b, b < w.heap.size → csize w'.heap[b]? = csize w.heap[b]?
  fz : ∀ a, a.block < w.heap.size → H a.block = none → w'.frozen? a = w.frozen? a

/-- What the package's own tables hold ('G g': a pointer to variable g, with its cells). -/
structure GOk (G : Nat → DVal) (w : World) (H : DHeap) : Prop where
  rel : ∀ g, Rel w H (G g) (.pointer (some ⟨g, 0, none⟩))
  exact : ∀ g cs, G g = .vptr cs 0 → csize w.heap[g]? = some cs.length

/-- What a call began with: how many blocks there were, and which calls it puts off itself; still: no loop over an iterator may leave anything. -/
structure Base where
  b : Nat
  late : List Deferred
  still : Bool
/-- A frame: how many slots, and what its call began with. -/
structure Fr where
  n : Nat
  base : Base
instance : Coe Fr Nat := ⟨Fr.n⟩

/-- What loops over iterators leave to the call's end. -/
def Dfs (w : World) (H : DHeap) (B : Base) (ds : List Deferred) : Prop :=
  ∃ Ds : List Nat, ds = Ds.map (fun D => ({ target := .collected D, args := #[] } : Deferred)) ++ B.late ∧ Ds.Nodup ∧ ∀ D ∈ Ds, (B.b ≤ D ∧ B.still = false) ∧ w.heap[D]? = some (.deferred (some [])) ∧ H D = none

theorem Dfs.nil (w : World) (H : DHeap) (B : Nat) : Dfs w H ⟨B, [], false⟩ [] := ⟨[], rfl, List.nodup_nil, by simp⟩

structure Sim (G : Nat → DVal) (N : Fr) (s : DS) (a : Act) (w : World) : Prop where
  size : a.tmps.size = N.n
  defers : Dfs w s.heap N.base a.defers
  tmps : ∀ i, i < N.n → Rel w s.heap (s.env i) (a.tmps.getD i undef)
  heap : SimHeap w s.heap
  glob : GOk G w s.heap
  base : N.base.b ≤ w.heap.size

inductive RelX (w : World) (H : DHeap) : DExit → Exit → Prop
  | normal : RelX w H .normal .normal
  | exit (id : Nat) : RelX w H (.exit id) (.exit id)
  | goto (l : Nat) : RelX w H (.goto l) (.goto l)
  | ret : RelX w H .ret .ret
  | panic (d : DVal) (v : Value) : Rel w H d v → RelX w H (.panic d) (.panic [{ v, recovered := false }])

inductive RelE (w : World) (H : DHeap) : DEnd → Ending → Prop
  | ret (d : DVal) (v : Value) : Rel w H d v → RelE w H (.ret d) (.returned v)
  | panic (d : DVal) (v : Value) : Rel w H d v → RelE w H (.panic d) (.panicked [{ v, recovered := false }])

/-- A CALL AT THE DATA LEVEL. -/
def DCalls (P : Program) (G : Nat → DVal) (f : FuncId) (args : List DVal) (H : DHeap) (R : DEnd → DHeap → Prop) : Prop :=
  (∀ vs w, (callFunc f vs).run P w = .ok (.enter f vs) w) ∧
  ∀ (vs : List Value) (w : World), RelL w H args vs → SimHeap w H → GOk G w H →
    Calls P f vs.toArray w fun e w' => ∃ e' H', R e' H' ∧ RelE w' H' e' e ∧ SimHeap w' H' ∧ Ext H w H' w'

/-- A fence that lets everything by. -/
def FOk (F : Fence) : Prop := F = Fence.wide ∨ ∃ l, F = Fence.wide.inRound l

/-- A ROUND AT THE DATA LEVEL: what a call of yield does. -/
def DYields (P : Program) (G : Nat → DVal) (l : Nat) (args : List DVal) (H : DHeap) (R : DEnd → DHeap → Prop) : Prop :=
  ∀ (F : Fence) (n : Nat), FOk F → ∀ (vs : List Value) (w : World), RelL w H args vs → SimHeap w H → GOk G w H →
    YieldAt F n P l vs.toArray w fun e w' => ∃ e' H', R e' H' ∧ RelE w' H' e' e ∧ SimHeap w' H' ∧ Ext H w H' w'

section
variable {P : Program} {F : Fence} {n : Nat}

theorem FOk.fn (h : FOk F) (g : FuncId) : F.fn g := by
  rcases h with rfl | ⟨l, rfl⟩ <;> trivial
theorem FOk.depth (h : FOk F) : F.depth = none := by
  rcases h with rfl | ⟨l, rfl⟩ <;> rfl
theorem FOk.calls (h : FOk F) {f : FuncId} {args : Array Value} {w : World} {R : Ending → World → Prop} (hc : Calls P f args w R) : CallsIn F n P f args w R := by
  rcases h with rfl | ⟨l, rfl⟩
  · exact callsIn_wide.2 hc
  · exact CallsIn.inRound l (callsIn_wide.2 hc)
theorem FOk.rows (h : FOk F) {row : String} {args : Array Value} {w : World} {R : Value → World → Prop} (hc : Rows P row args w R) : RowsIn F n P row args w R := by
  have h0 : RowsIn Fence.wide n P row args w R := fun c cs _ => by
    obtain ⟨v, w', hr, hs⟩ := hc c cs
    exact ⟨v, w', hr, stepsIn_wide.2 hs⟩
  rcases h with rfl | ⟨l, rfl⟩
  · exact h0
  · exact h0

theorem FOk.oper (h : FOk F) {o : Oper} {a : Act} {w : World} {K : Act → World → Prop} {Q : Exit → Act → World → Prop} (hd : ∀ c, o.op ≠ .defer c) (hw : o.wp P a w K Q) : o.wpIn F n P a w K Q := by
  refine ⟨fun f _ => h.fn f, ?_⟩
  rw [Oper.semAt_eq _ _ _ hd]
  unfold Oper.wp at hw
  have hdep : F.depth.isSome = true → 1 ≤ n := by rw [h.depth]; intro hh; cases hh
  generalize (execOp a.eval o).run P w = r at hw ⊢
  cases r with
  | ok x w' =>
    cases x <;> simp only [Oper.upon, Oper.uponIn] at hw ⊢ <;> first
      | exact hw
      | exact ⟨hdep, h.calls (hw.mono fun e w'' he => by cases e <;> exact he)⟩
      | exact ⟨hdep, h.rows hw⟩
      | exact hw.elim
  | halt x w' => cases x <;> simp only [Oper.upon, Oper.uponIn] at hw ⊢ <;> first | exact hw | exact hw.elim

end

/-- A PIECE OF CODE AT THE DATA LEVEL. -/
def DWp (P : Program) (G : Nat → DVal) (N : Nat) (c : Code) (Q : DExit → DS → Prop) (s : DS) : Prop :=
  ∀ (F : Fence) (n : Nat) (B : Base), FOk F → ∀ (a : Act) (w : World), Sim G ⟨N, B⟩ s a w →
    c.wpIn F n P (fun e a' w' => ∃ e' s', Q e' s' ∧ RelX w' s'.heap e' e ∧ Sim G ⟨N, B⟩ s' a' w' ∧ Ext s.heap w s'.heap w') a w

/-- The same, outside of any round. -/
def DWp0 (P : Program) (G : Nat → DVal) (N : Nat) (c : Code) (Q : DExit → DS → Prop) (s : DS) : Prop :=
  ∀ (n : Nat) (B : Base), B.still = false → ∀ (a : Act) (w : World), Sim G ⟨N, B⟩ s a w →
    c.wpIn Fence.wide n P (fun e a' w' => ∃ e' s', Q e' s' ∧ RelX w' s'.heap e' e ∧ Sim G ⟨N, B⟩ s' a' w' ∧ Ext s.heap w s'.heap w') a w

/-- A step of thought: the same worlds, seen with less in it. -/
def Ghost (H : DHeap) (v : DVal) (H' : DHeap) (v' : DVal) : Prop :=
  ∀ w, SimHeap w H → SimHeap w H' ∧ ∀ x, Rel w H v x → Rel w H' v' x

-- what lasts -------------------------------------------------------------------------------------------------------------------

/-- What 'Rel' asks of the step from one world to the next: blocks that are none of the call's own stay as they are, and stay none of its own; blocks keep their size. -/
structure Lasts (H : DHeap) (w : World) (H' : DHeap) (w' : World) : Prop where
  cell : ∀ b i x, H b = none → w.cell? ⟨b, i, none⟩ = some x → H' b = none ∧ w'.cell? ⟨b, i, none⟩ = some x
  size : w.heap.size ≤ w'.heap.size
  keep : ∀ b, b < w.heap.size → csize w'.heap[b]? = csize w.heap[b]?

theorem Lasts.room {H H' : DHeap} {w w' : World} (h : Lasts H w H' w') {r n : Nat} (hr : Room w r n) : Room w' r n :=
  ⟨Nat.lt_of_lt_of_le hr.1 h.size, fun k hk => hr.2 k (by rw [← h.keep r hr.1]; exact hk)⟩

theorem cell_lt {w : World} {b i : Nat} {x : Value} (h : w.cell? ⟨b, i, none⟩ = some x) : b < w.heap.size := by
  unfold World.cell? at h
  rcases Nat.lt_or_ge b w.heap.size with hl | hl
  · exact hl
  · simp [Array.getElem?_eq_none hl] at h

theorem Ext.lasts {H H' : DHeap} {w w' : World} (h : Ext H w H' w') : Lasts H w H' w' := by
  refine ⟨fun b i x hb hc => ?_, h.size, h.keep⟩
  have hl := cell_lt hc
  constructor
  · cases e : H' b with
    | none => rfl
    | some o =>
      rcases h.own b (by simp [e]) with h1 | h1
      · exact (h1 hb).elim
      · omega
  · unfold World.cell? at hc ⊢
    rw [h.block b hl hb]; exact hc

theorem Dfs.ext {H H' : DHeap} {w w' : World} {B : Base} {ds : List Deferred} (h : Ext H w H' w') (hd : Dfs w H B ds) : Dfs w' H' B ds := by
  obtain ⟨Ds, h1, h2, h3⟩ := hd
  refine ⟨Ds, h1, h2, fun D hD => ?_⟩
  obtain ⟨g1, g2, g3⟩ := h3 D hD
  have hl : D < w.heap.size := (Array.getElem?_eq_some_iff.1 g2).1
  refine ⟨g1, by rw [h.block D hl g3]; exact g2, ?_⟩
  cases e : H' D with
  | none => rfl
  | some o =>
    rcases h.own D (by simp [e]) with k | k
    · exact (k g3).elim
    · omega
theorem Dfs.less {H H' : DHeap} {w : World} {B : Base} {ds : List Deferred} (hd : Dfs w H B ds) (h : ∀ b, H' b ≠ none → H b ≠ none) : Dfs w H' B ds := by
  obtain ⟨Ds, h1, h2, h3⟩ := hd
  refine ⟨Ds, h1, h2, fun D hD => ⟨(h3 D hD).1, (h3 D hD).2.1, ?_⟩⟩
  cases e : H' D with
  | none => rfl
  | some o => exact absurd (h3 D hD).2.2 (h D (by simp [e]))

theorem CellsAt.lasts {H H' : DHeap} {w w' : World} (h : Lasts H w H' w') {b o : Nat} {xs : List Value} (hc : CellsAt w H b o xs) : CellsAt w' H' b o xs := by
  rcases hc with rfl | ⟨h1, h2⟩
  · exact .inl rfl
  · cases xs with
    | nil => exact .inl rfl
    | cons x xs =>
      refine .inr ⟨(h.cell b (o + 0) x h1 (h2 0 x rfl)).1, fun i y hy => (h.cell b (o + i) y h1 (h2 i y hy)).2⟩

mutual
theorem Rel.lasts {H H' : DHeap} {w w' : World} (h : Lasts H w H' w') : ∀ (d : DVal) (v : Value), Rel w H d v → Rel w' H' d v
  | .raw _, _, hr => by simpa [Rel] using hr
  | .bool _, _, hr => by simpa [Rel] using hr
  | .int _ _, _, hr => by simpa [Rel] using hr
  | .str _, _, hr => by simpa [Rel] using hr
  | .nilPtr, _, hr => by simpa [Rel] using hr
  | .vptr cs off, v, hr => by
    simp only [Rel] at hr ⊢
    obtain ⟨b, o, xs, rfl, hc, hl⟩ := hr
    exact ⟨b, o, xs, rfl, hc.lasts h, RelL.lasts h cs xs hl⟩
  | .optr _ _, _, hr => by simpa [Rel] using hr
  | .nilSlice, _, hr => by simpa [Rel] using hr
  | .vslice cs len, v, hr => by
    simp only [Rel] at hr ⊢
    obtain ⟨a, cap, rfl, hle, hc⟩ := hr
    refine ⟨a, cap, rfl, hle, ?_⟩
    rcases hc with hc | ⟨b, o, xs, rfl, hc, hl⟩
    · exact .inl hc
    · exact .inr ⟨b, o, xs, rfl, hc.lasts h, RelL.lasts h cs xs hl⟩
  | .oslice sz r off len lo, v, hr => by
    simp only [Rel] at hr ⊢
    obtain ⟨o, cap, e, h1, h2, h3, h4⟩ := hr
    exact ⟨o, cap, e, h1, h2, h3, h.room h4⟩
  | .nilMap, _, hr => by simpa [Rel] using hr
  | .omap _, _, hr => by simpa [Rel] using hr
  | .func fn first captured, v, hr => by
    simp only [Rel] at hr ⊢
    obtain ⟨xs, ys, rfl, h1, h2⟩ := hr
    exact ⟨xs, ys, rfl, RelL.lasts h first _ h1, RelL.lasts h captured _ h2⟩
  | .nilFunc, _, hr => by simpa [Rel] using hr
  | .iface t d, v, hr => by
    simp only [Rel] at hr ⊢
    obtain ⟨x, rfl, h1⟩ := hr
    exact ⟨x, rfl, Rel.lasts h d x h1⟩
  | .nilIface, _, hr => by simpa [Rel] using hr
  | .agg cs, v, hr => by
    simp only [Rel] at hr ⊢
    obtain ⟨xs, rfl, h1⟩ := hr
    exact ⟨xs, rfl, RelL.lasts h cs _ h1⟩
  | .tuple cs, v, hr => by
    simp only [Rel] at hr ⊢
    obtain ⟨xs, rfl, h1⟩ := hr
    exact ⟨xs, rfl, RelL.lasts h cs _ h1⟩
theorem RelL.lasts {H H' : DHeap} {w w' : World} (h : Lasts H w H' w') : ∀ (ds : List DVal) (xs : List Value), RelL w H ds xs → RelL w' H' ds xs
  | [], _, hr => by simpa [RelL] using hr
  | d :: ds, xs, hr => by
    simp only [RelL] at hr ⊢
    obtain ⟨y, ys, rfl, h1, h2⟩ := hr
    exact ⟨y, ys, rfl, Rel.lasts h d y h1, RelL.lasts h ds ys h2⟩
end

theorem RelM.lasts {H H' : DHeap} {w w' : World} (h : Lasts H w H' w') : ∀ {es : List (DVal × DVal)} {ms : List MapEntry}, RelM w H es ms → RelM w' H' es ms
  | [], _, hr => hr
  | p :: es, ms, hr => by
    obtain ⟨m, ms', rfl, h1, h2, h3⟩ := hr
    exact ⟨m, ms', rfl, Rel.lasts h _ _ h1, Rel.lasts h _ _ h2, RelM.lasts h h3⟩

theorem RelObj.lasts {H H' : DHeap} {w w' : World} (h : Lasts H w H' w') {o : DObj} {x : Option Obj} (hr : RelObj w H o x) : RelObj w' H' o x := by
  cases o with
  | cells cs e =>
    obtain ⟨xs, c, fz, h1, h2, h3, h4⟩ := hr
    exact ⟨xs, c, fz, h1, h2, RelL.lasts h _ _ h3, h4⟩
  | loop env n r =>
    obtain ⟨tmps, h1, h2, h3⟩ := hr
    exact ⟨tmps, h1, h2, fun i hi => Rel.lasts h _ _ (h3 i hi)⟩
  | map es =>
    obtain ⟨ms, c, h1, h2⟩ := hr
    exact ⟨ms, c, h1, h2.lasts h⟩
  | iter s pos => exact hr

theorem RelObj.some {H : DHeap} {w : World} {o : DObj} {x : Option Obj} (hr : RelObj w H o x) : ∃ y, x = Option.some y := by
  cases o with
  | cells cs e =>
    obtain ⟨xs, c, fz, h1, h2, h3, h4⟩ := hr
    exact ⟨_, h1⟩
  | loop env n r =>
    obtain ⟨tmps, h1, h2, h3⟩ := hr
    exact ⟨_, h1⟩
  | map es =>
    obtain ⟨ms, c, h1, h2⟩ := hr
    exact ⟨_, h1⟩
  | iter s pos => exact ⟨_, hr⟩

theorem Ext.refl (H : DHeap) (w : World) : Ext H w H w := ⟨rfl, rfl, rfl, Nat.le_refl _, fun _ _ _ => rfl, fun _ h => .inl h, fun _ _ => rfl, fun _ _ _ => rfl⟩

theorem Ext.trans {H H' H'' : DHeap} {w w' w'' : World} (h : Ext H w H' w') (k : Ext H' w' H'' w'') : Ext H w H'' w'' := by
  refine ⟨k.os.trans h.os, k.tape.trans h.tape, k.output.trans h.output, Nat.le_trans h.size k.size, fun b hb hn => ?_, fun b hb => ?_, fun b hb => by rw [k.keep b (Nat.lt_of_lt_of_le hb h.size), h.keep b hb], fun a ha hn => by rw [k.fz a (Nat.lt_of_lt_of_le ha h.size) (by
    cases e : H' a.block with
    | none => rfl
    | some o =>
      rcases h.own a.block (by simp [e]) with h1 | h1
      · exact (h1 hn).elim
      · omega), h.fz a ha hn]⟩
  · have hn' : H' b = none := by
      cases e : H' b with
      | none => rfl
      | some o =>
        rcases h.own b (by simp [e]) with h1 | h1
        · exact (h1 hn).elim
        · omega
    rw [k.block b (Nat.lt_of_lt_of_le hb h.size) hn', h.block b hb hn]
  · rcases k.own b hb with h1 | h1
    · exact h.own b h1
    · exact .inr (Nat.le_trans h.size h1)

theorem RelL.length {w : World} {H : DHeap} : ∀ {ds : List DVal} {xs : List Value}, RelL w H ds xs → ds.length = xs.length
  | [], _, h => by simp only [RelL] at h; subst h; rfl
  | d :: ds, xs, h => by
    simp only [RelL] at h
    obtain ⟨y, ys, rfl, _, h2⟩ := h
    simp [RelL.length h2]

theorem RelL.get {w : World} {H : DHeap} : ∀ {ds : List DVal} {xs : List Value}, RelL w H ds xs → ∀ {i : Nat} {d : DVal}, ds[i]? = some d → ∃ x, xs[i]? = some x ∧ Rel w H d x
  | [], _, _, i, d, hd => by simp at hd
  | d :: ds, xs, h, i, e, hd => by
    simp only [RelL] at h
    obtain ⟨y, ys, rfl, h1, h2⟩ := h
    cases i with
    | zero => simp at hd; subst hd; exact ⟨y, rfl, h1⟩
    | succ i => simp at hd; obtain ⟨x, hx, hr⟩ := RelL.get h2 hd; exact ⟨x, by simpa using hx, hr⟩

theorem RelL.mk {w : World} {H : DHeap} : ∀ {ds : List DVal} {xs : List Value}, ds.length = xs.length → (∀ (i : Nat) (d : DVal) (x : Value), ds[i]? = some d → xs[i]? = some x → Rel w H d x) → RelL w H ds xs
  | [], [], _, _ => by simp [RelL]
  | [], _ :: _, h, _ => by simp at h
  | _ :: _, [], h, _ => by simp at h
  | d :: ds, x :: xs, hl, h => by
    simp only [RelL]
    refine ⟨x, xs, rfl, h 0 d x rfl rfl, RelL.mk (by simpa using hl) fun i d' x' h1 h2 => h (i + 1) d' x' (by simpa using h1) (by simpa using h2)⟩

theorem RelL.append {w : World} {H : DHeap} : ∀ {ds es : List DVal} {xs ys : List Value}, RelL w H ds xs → RelL w H es ys → RelL w H (ds ++ es) (xs ++ ys)
  | [], _, _, _, h, k => by simp only [RelL] at h; subst h; simpa using k
  | d :: ds, es, xs, ys, h, k => by
    simp only [RelL] at h
    obtain ⟨y, ys', rfl, h1, h2⟩ := h
    simp only [List.cons_append, RelL]
    exact ⟨y, _, rfl, h1, RelL.append h2 k⟩

theorem RelL.take {w : World} {H : DHeap} {ds : List DVal} {xs : List Value} (h : RelL w H ds xs) (n : Nat) : RelL w H (ds.take n) (xs.take n) := by
  have hl := h.length
  refine RelL.mk (by simp [hl]) fun i d x h1 h2 => ?_
  simp only [List.getElem?_take] at h1 h2
  split at h1
  · rename_i hi
    simp only [hi, if_true] at h2
    obtain ⟨y, hy, hr⟩ := h.get h1
    rw [h2] at hy; cases hy; exact hr
  · simp at h1

theorem RelL.drop {w : World} {H : DHeap} {ds : List DVal} {xs : List Value} (h : RelL w H ds xs) (n : Nat) : RelL w H (ds.drop n) (xs.drop n) := by
  have hl := h.length
  refine RelL.mk (by simp [hl]) fun i d x h1 h2 => ?_
  simp only [List.getElem?_drop] at h1 h2
  obtain ⟨y, hy, hr⟩ := h.get h1
  rw [h2] at hy; cases hy; exact hr

theorem RelL.set {w : World} {H : DHeap} {ds : List DVal} {xs : List Value} (h : RelL w H ds xs) {d : DVal} {x : Value} (hd : Rel w H d x) (n : Nat) : RelL w H (ds.set n d) (xs.set n x) := by
  have hl := h.length
  refine RelL.mk (by simp [hl]) fun i e y h1 h2 => ?_
  simp only [List.getElem?_set] at h1 h2
  split at h1
  · rename_i hi; subst hi
    simp only [if_true] at h2
    split at h1
    · rename_i hn
      rw [if_pos (by omega)] at h2
      cases h1; cases h2; exact hd
    · cases h1
  · rename_i hi
    rw [if_neg hi] at h2
    obtain ⟨z, hz, hr⟩ := h.get h1
    rw [h2] at hz; cases hz; exact hr

theorem Rel.cells {w : World} {H : DHeap} {d : DVal} {v : Value} (h : Rel w H d v) : RelL w H d.cells v.cells.toList := by
  cases d <;> simp only [Rel, DVal.cells, RelL] at h ⊢
  case raw x => obtain ⟨rfl, h⟩ := h; cases v <;> simp_all [Value.cells, Value.oneCell']
  case agg cs => obtain ⟨xs, rfl, hl⟩ := h; simpa [Value.cells] using hl
  case func => obtain ⟨xs, ys, rfl, h1, h2⟩ := h; exact ⟨_, _, rfl, ⟨xs, ys, rfl, h1, h2⟩, rfl⟩
  case vptr => obtain ⟨b, o, xs, rfl, h1, h2⟩ := h; exact ⟨_, _, rfl, ⟨b, o, xs, rfl, h1, h2⟩, rfl⟩
  case vslice => obtain ⟨a, cap, rfl, h1, h2⟩ := h; exact ⟨_, _, rfl, ⟨a, cap, rfl, h1, h2⟩, rfl⟩
  case oslice => obtain ⟨o, cap, rfl, h1⟩ := h; exact ⟨_, _, rfl, ⟨o, cap, rfl, h1⟩, rfl⟩
  case iface => obtain ⟨x, rfl, h1⟩ := h; exact ⟨_, _, rfl, ⟨x, rfl, h1⟩, rfl⟩
  case tuple => obtain ⟨xs, rfl, h1⟩ := h; exact ⟨_, _, rfl, ⟨xs, rfl, h1⟩, rfl⟩
  all_goals (subst h; exact ⟨_, _, rfl, rfl, rfl⟩)

end Go.Dl

-- THE DATA LEVEL, PART B: what each operation, and each piece of code, asks and does at this level. Definitions alone.
namespace Go.Dl
open Go

mutual
def ofVal : Value → DVal
  | .bool b => .bool b
  | .int k n => .int k n
  | .string ⟨⟨l⟩⟩ => .str l
  | .pointer none => .nilPtr
  | .slice none 0 0 => .nilSlice
  | .map none => .nilMap
  | .nilFunc => .nilFunc
  | .nilIface => .nilIface
  | .func fn ⟨a⟩ ⟨c⟩ => .func fn (ofVals a) (ofVals c)
  | .agg ⟨l⟩ => .agg (ofVals l)
  | .tuple ⟨l⟩ => .tuple (ofVals l)
  | v => .raw v
def ofVals : List Value → List DVal
  | [] => []
  | v :: vs => ofVal v :: ofVals vs
end

def updO (env : Nat → DVal) (dst : Option Nat) (v : DVal) : Nat → DVal :=
  match dst with
  | some d => upd env d v
  | none => env

def dundef : DVal := .tuple []

def dev (G : Nat → DVal) (env : Nat → DVal) : Operand → DVal
  | .tmp t => env t
  | .const v => ofVal v
  | .global g => G g
  | .func f => .func (.func f) [] []

def devs (G : Nat → DVal) (env : Nat → DVal) : List Operand → List DVal
  | [] => []
  | x :: xs => dev G env x :: devs G env xs

/-- Is it a struct or an array? (none: no such type.) -/
def aggB (P : Program) (t : TypeId) : Option Bool :=
  match P.underlying t with
  | some (.struct _) | some (.array _ _) => some true
  | some _ => some false
  | none => none

/-- Are the sizes of a struct's fields known, of an array's elements? -/
def buildOk (P : Program) (t : TypeId) : Bool :=
  match P.underlying t with
  | some (.struct fs) => fs.toList.all fun f => (P.info? f.type).isSome
  | some (.array _ e) => (P.info? e).isSome
  | _ => false

abbrev DK := DS → Prop

def dput (dst : Option Nat) (v : DVal) (K : DK) (s : DS) : Prop := K ⟨updO s.env dst v, s.heap⟩

def dputO (dst : Option Nat) : Option DVal → DK → DS → Prop
  | some v, K, s => dput dst v K s
  | none, _, _ => False

/-- A new block; the slot gets a pointer to it, or a slice over it. -/
def DNewP (cs : List DVal) (e : TypeId) (dst : Option Nat) (K : DK) (s : DS) : Prop :=
  ∀ r, s.heap r = none → K ⟨updO s.env dst (.optr r 0), upd s.heap r (some (.cells cs e))⟩
def DNewS (cs : List DVal) (e : TypeId) (sz len cap : Nat) (dst : Option Nat) (K : DK) (s : DS) : Prop :=
  ∀ r, s.heap r = none → K ⟨updO s.env dst (.oslice sz r 0 len cap), upd s.heap r (some (.cells cs e))⟩

def zeroOf (P : Program) (t : TypeId) : Option DVal := ((P.info? t).bind (·.zero)).map ofVal

def dAlloc (e : TypeId) (dst : Option Nat) : Option DVal → DK → DS → Prop
  | some z, K, s => DNewP z.cells e dst K s
  | none, _, _ => False

def dPick (dst : Option Nat) : DVal → DVal → DVal → DK → DS → Prop
  | .bool t, a, b, K, s => dput dst (if t then a else b) K s
  | _, _, _, _, _ => False

/-- The cells of a struct or an array, out of its parts. -/
def dfill (place : Nat → Option (Nat × Nat)) (cells : List DVal) : List (Nat × DVal) → Option (List DVal)
  | [] => some cells
  | (i, v) :: rest =>
    match place i with
    | none => none
    | some (off, size) =>
      if v.cells.length = size ∧ off + v.cells.length ≤ cells.length then dfill place (cells.take off ++ v.cells ++ cells.drop (off + v.cells.length)) rest else none

def placeS (P : Program) (fields : Array Field) (i : Nat) : Option (Nat × Nat) := (fields[i]?).map fun f => (f.offset, P.cellsOf f.type)
def placeA (size : Nat) (i : Nat) : Option (Nat × Nat) := some (i * size, size)

def dBuild (P : Program) (dst : Option Nat) : Bool → Option TypeDesc → Option DVal → List (Nat × DVal) → DK → DS → Prop
  | true, some (.struct fields), some z, parts, K, s => dputO dst ((dfill (placeS P fields) z.cells parts).map .agg) K s
  | true, some (.array _ e), some z, parts, K, s => dputO dst ((dfill (placeA (P.cellsOf e)) z.cells parts).map .agg) K s
  | _, _, _, _, _, _ => False

def repl (n : Nat) (zs : List DVal) : List DVal := (List.replicate n zs).flatten

def dNewSO (e : TypeId) (sz len : Nat) (dst : Option Nat) : Option (List DVal) → DK → DS → Prop
  | some cs, K, s => DNewS cs e sz len len dst K s
  | none, _, _ => False
def dBuildSliceZ (e : TypeId) (size len : Nat) (dst : Option Nat) : Option DVal → List (Nat × DVal) → DK → DS → Prop
  | some z, parts, K, s => len * size ≤ 16777216 ∧ z.cells.length = size ∧ dNewSO e size len dst (dfill (placeA size) (repl len z.cells) parts) K s
  | none, _, _, _ => False
def dBuildSlice (P : Program) (len : Nat) (dst : Option Nat) : Option TypeDesc → List (Nat × DVal) → DK → DS → Prop
  | some (.slice e), parts, K, s => dBuildSliceZ e (P.cellsOf e) len dst (zeroOf P e) parts K s
  | _, _, _, _ => False

/-- A variable of type t read out of cells. -/
def dLoadC (size : Nat) (dst : Option Nat) : Option Bool → List DVal → Nat → DK → DS → Prop
  | some true, cs, off, K, s => off + size ≤ cs.length ∧ dput dst (.agg ((cs.drop off).take size)) K s
  | some false, cs, off, K, s => dputO dst cs[off]? K s
  | none, _, _, _, _ => False

def dLoadH (size : Nat) (ag : Option Bool) (dst : Option Nat) (off : Nat) : Option DObj → DK → DS → Prop
  | some (.cells cs _), K, s => dLoadC size dst ag cs off K s
  | _, _, _ => False

def dLoad (size : Nat) (ag : Option Bool) (dst : Option Nat) : DVal → DK → DS → Prop
  | .vptr cs off, K, s => dLoadC size dst ag cs off K s
  | .optr r off, K, s => dLoadH size ag dst off (s.heap r) K s
  | _, _, _ => False

/-- Cells with a part of them replaced. -/
def splice (cs : List DVal) (off : Nat) (vs : List DVal) : List DVal := cs.take off ++ vs ++ cs.drop (off + vs.length)

def dStoreH (size : Nat) (r off : Nat) (v : DVal) : Option DObj → DK → DS → Prop
  | some (.cells cs e), K, s => v.cells.length = size ∧ (v.cells.all (·.one)) = true ∧ off + size ≤ cs.length ∧
      K ⟨s.env, upd s.heap r (some (.cells (splice cs off v.cells) e))⟩
  | _, _, _ => False

def dStore (size : Nat) : Option Nat → DVal → DVal → DK → DS → Prop
  | none, .optr r off, v, K, s => dStoreH size r off v (s.heap r) K s
  | _, _, _, _, _ => False

def dNilCheck (dst : Option Nat) : DVal → DK → DS → Prop
  | .vptr cs off, K, s => dput dst (.vptr cs off) K s
  | .optr r off, K, s => dput dst (.optr r off) K s
  | .func (.func f) a c, K, s => dput dst (.func (.func f) a c) K s
  | .iface t v, K, s => dput dst (.iface t v) K s
  | .omap r, K, s => dput dst (.omap r) K s
  | _, _, _ => False

/-- Equality of plain values, and of pointers, functions, slices, interface values with nil (c: one of the two is a constant of the text). -/
def dEql (c : Bool) : Option TypeDesc → DVal → DVal → Option Bool
  | some .bool, .bool a, .bool b => some (a == b)
  | some (.pointer _), .nilPtr, .nilPtr => some true
  | some (.pointer _), .nilPtr, .optr _ _ => some false
  | some (.pointer _), .nilPtr, .vptr _ _ => some false
  | some (.pointer _), .optr _ _, .nilPtr => some false
  | some (.pointer _), .vptr _ _, .nilPtr => some false
  | some (.interface _), .nilIface, .iface _ _ => some false
  | some (.interface _), .iface _ _, .nilIface => some false
  | some (.interface _), .nilIface, .nilIface => if c then some true else none
  | some (.func _ _ _), .nilFunc, .nilFunc => some true
  | some (.func _ _ _), .func _ _ _, .nilFunc => some false
  | some (.func _ _ _), .nilFunc, .func _ _ _ => some false
  | some (.slice _), .nilSlice, .nilSlice => some true
  | some (.slice _), .oslice _ _ _ _ _, .nilSlice => some false
  | some (.slice _), .nilSlice, .oslice _ _ _ _ _ => some false
  | _, _, _ => none

def andO : Option Bool → Option Bool → Option Bool
  | some true, b => b
  | some false, some _ => some false
  | _, _ => none

/-- The cells of a part of type t. -/
def partCells (size off : Nat) (xs : List DVal) : Option Bool → List DVal
  | some true => (xs.drop off).take size
  | some false => (xs.drop off).take 1
  | none => []

def dEq1 : DVal → DVal → Option Bool
  | .bool a, .bool b => some (decide (a = b))
  | .int k a, .int k' b => if k = k' then some (decide (a = b)) else none
  | .str a, .str b => some (decide (a = b))
  | _, _ => none

/-- Equality of structs and arrays of plain values, part by part. -/
def dEqFs (f : TypeId → Nat → Option Bool) : List Field → Option Bool
  | [] => some true
  | x :: fs => if x.name ≠ "_" then andO (f x.type x.offset) (dEqFs f fs) else none
def dEqIs (f : Nat → Option Bool) : List Nat → Option Bool
  | [] => some true
  | i :: is => andO (f i) (dEqIs f is)

def dEqTb : List DVal → List DVal → Option Bool
  | [.bool a], [.bool b] => some (decide (a = b))
  | _, _ => none
def dEqTi : List DVal → List DVal → Option Bool
  | [.int k a], [.int k' b] => if k = k' then some (decide (a = b)) else none
  | _, _ => none
def dEqTs : List DVal → List DVal → Option Bool
  | [.str a], [.str b] => some (decide (a = b))
  | _, _ => none
def dEqTr (P : Program) (f : TypeId → List DVal → List DVal → Option Bool) (fs : List Field) (xs ys : List DVal) : Bool → Option Bool
  | true => none
  | false => dEqFs (fun u off => f u (partCells (P.cellsOf u) off xs (aggB P u)) (partCells (P.cellsOf u) off ys (aggB P u))) fs

/-- One step of it, by the type's shape. -/
def dEqTu (P : Program) (f : TypeId → List DVal → List DVal → Option Bool) (t : TypeId) (xs ys : List DVal) : Option TypeDesc → Option Bool
  | some .bool => dEqTb xs ys
  | some (.int _) => dEqTi xs ys
  | some .string => dEqTs xs ys
  | some (.struct fs) => dEqTr P f fs.toList xs ys (P.stoodInHeld t)
  | some (.array m e) => if (P.info? e).isSome then dEqIs (fun i => f e (partCells (P.cellsOf e) (i * P.cellsOf e) xs (aggB P e)) (partCells (P.cellsOf e) (i * P.cellsOf e) ys (aggB P e))) (List.range m) else none
  | _ => none

def dEqT (P : Program) : Nat → TypeId → List DVal → List DVal → Option Bool
  | 0, _, _, _ => none
  | n + 1, t, xs, ys => dEqTu P (dEqT P n) t xs ys (P.underlying t)

def dIntBin (k : IntKind) (a b : Int) (dst : Option Nat) (K : DK) (s : DS) : BinOp → Prop
  | .add => dput dst (.int k (k.wrap (a + b))) K s
  | .sub => dput dst (.int k (k.wrap (a - b))) K s
  | .mul => dput dst (.int k (k.wrap (a * b))) K s
  | .quo => b ≠ 0 ∧ dput dst (.int k (k.wrap (a.tdiv b))) K s
  | .rem => b ≠ 0 ∧ dput dst (.int k (a.tmod b)) K s
  | .and => dput dst (.int k (k.wrap (BitVec.ofInt k.bits a &&& BitVec.ofInt k.bits b).toNat)) K s
  | .or => dput dst (.int k (k.wrap (BitVec.ofInt k.bits a ||| BitVec.ofInt k.bits b).toNat)) K s
  | .xor => dput dst (.int k (k.wrap (BitVec.ofInt k.bits a ^^^ BitVec.ofInt k.bits b).toNat)) K s
  | .andNot => dput dst (.int k (k.wrap (BitVec.ofInt k.bits a &&& ~~~BitVec.ofInt k.bits b).toNat)) K s
  | .eql => dput dst (.bool (decide (a = b))) K s
  | .neq => dput dst (.bool (!decide (a = b))) K s
  | .lss => dput dst (.bool (decide (a < b))) K s
  | .leq => dput dst (.bool (decide (a ≤ b))) K s
  | .gtr => dput dst (.bool (decide (b < a))) K s
  | .geq => dput dst (.bool (decide (b ≤ a))) K s
  | _ => False

def dShift (k : IntKind) (a b : Int) (dst : Option Nat) (K : DK) (s : DS) : BinOp → Prop
  | .shl => 0 ≤ b ∧ dput dst (.int k (k.wrap (a * 2 ^ (min b.toNat k.bits)))) K s
  | .shr => 0 ≤ b ∧ dput dst (.int k (a.fdiv (2 ^ (min b.toNat k.bits)))) K s
  | _ => False

def dStrBin (a b : List UInt8) (dst : Option Nat) (K : DK) (s : DS) : BinOp → Prop
  | .add => a.length + b.length ≤ 9223372036854775807 ∧ dput dst (.str (a ++ b)) K s
  | .eql => dput dst (.bool (decide (a = b))) K s
  | .neq => dput dst (.bool (!decide (a = b))) K s
  | .lss => dput dst (.bool (Go.Op.bytesLess a b)) K s
  | .leq => dput dst (.bool (Go.Op.bytesLess a b || decide (a = b))) K s
  | .gtr => dput dst (.bool (!(Go.Op.bytesLess a b || decide (a = b)))) K s
  | .geq => dput dst (.bool (!Go.Op.bytesLess a b)) K s
  | _ => False

/-- A comparison with == (false) or != (true). -/
def eqOp : BinOp → Option Bool
  | .eql => some false
  | .neq => some true
  | _ => none
def dEqP (dst : Option Nat) : Option Bool → Option Bool → DK → DS → Prop
  | some false, some b, K, s => dput dst (.bool b) K s
  | some true, some b, K, s => dput dst (.bool (!b)) K s
  | _, _, _, _ => False

def isShift : BinOp → Bool
  | .shl | .shr => true
  | _ => false

def dBinI (op : BinOp) (k k' : IntKind) (a b : Int) (dst : Option Nat) (K : DK) (s : DS) : Bool → Prop
  | true => dShift k a b dst K s op
  | false => k = k' ∧ dIntBin k a b dst K s op

def isConst : Operand → Bool
  | .const _ => true
  | _ => false

def dBin (P : Program) (t : TypeId) (c : Bool) (op : BinOp) (dst : Option Nat) : DVal → DVal → DK → DS → Prop
  | .int k a, .int k' b, K, s => dBinI op k k' a b dst K s (isShift op)
  | .str a, .str b, K, s => dStrBin a b dst K s op
  | .agg xs, .agg ys, K, s => aggB P t = some true ∧ P.eqGuardType P.depth t = false ∧ dEqP dst (eqOp op) (dEqT P 6 t xs ys) K s
  | x, y, K, s => dEqP dst (eqOp op) (dEql c (P.underlying t) x y) K s

/-- Is it the constant nil, of a slice's type? -/
def isNilS : Operand → Bool
  | .const (.slice none 0 0) => true
  | _ => false
def isSl : Option TypeDesc → Bool
  | some (.slice _) => true
  | _ => false
/-- A slice in memory that lasts may be nil where it has no cells. -/
def dNilS (cs : List DVal) (op : BinOp) (dst : Option Nat) (K : DK) (s : DS) : Prop := ∀ b, (cs ≠ [] → b = false) → dEqP dst (eqOp op) (some b) K s
def dBinX (P : Program) (t : TypeId) (c : Bool) (op : BinOp) (dst : Option Nat) : Bool → DVal → DVal → DK → DS → Prop
  | true, .vslice cs _, _, K, s => isSl (P.underlying t) = true ∧ dNilS cs op dst K s
  | _, x, y, K, s => dBin P t c op dst x y K s

def dUn (dst : Option Nat) : UnOp → DVal → DK → DS → Prop
  | .not, .bool b, K, s => dput dst (.bool (!b)) K s
  | .neg, .int k n, K, s => dput dst (.int k (k.wrap (0 - n))) K s
  | .xor, .int k n, K, s => dput dst (.int k (k.wrap (BitVec.ofInt k.bits (if k.signed then -1 else k.max) ^^^ BitVec.ofInt k.bits n).toNat)) K s
  | _, _, _, _ => False

def dConvert (dst : Option Nat) : Option TypeDesc → Option TypeDesc → DVal → DK → DS → Prop
  | some _, some (.int k), .int _ n, K, s => dput dst (.int k (k.wrap n)) K s
  | some _, some .string, .str l, K, s => dput dst (.str l) K s
  | _, _, _, _, _ => False

/-- The string of these bytes. -/
def strOf : List DVal → Option (List UInt8)
  | [] => some []
  | .int .u8 n :: ds => (strOf ds).map (UInt8.ofNat n.toNat :: ·)
  | _ => none
def dStrO (dst : Option Nat) : Option (List UInt8) → DK → DS → Prop
  | some l, K, s => dput dst (.str l) K s
  | none, _, _ => False
def strSrcO (n off : Nat) : Option DObj → Option (List DVal)
  | some (.cells cs _) => if off + n ≤ cs.length then some ((cs.drop off).take n) else none
  | _ => none
/-- The bytes of a slice of bytes. -/
def strSrc (H : DHeap) : DVal → Option (List DVal)
  | .nilSlice => some []
  | .vslice cs n => if n ≤ cs.length then some (cs.take n) else none
  | .oslice _ r off n _ => strSrcO n off (H r)
  | _ => none
def dConvB (P : Program) (e : TypeId) (x : DVal) (dst : Option Nat) (K : DK) (s : DS) : Prop := P.underlying e = some (.int .u8) ∧ dStrO dst ((strSrc s.heap x).bind strOf) K s
def dConvP (P : Program) (dst : Option Nat) : Option TypeDesc → Option TypeDesc → DVal → DK → DS → Prop
  | some (.slice e), some .string, x, K, s => dConvB P e x dst K s
  | a, b, x, K, s => dConvert dst a b x K s

/-- A walk through a string: its beginning, its next step. -/
def dRange (dst : Option Nat) : Option TypeDesc → DVal → DK → DS → Prop
  | some .string, .str l, K, s => ∀ r, s.heap r = none → K ⟨updO s.env dst (.optr r 0), upd s.heap r (some (.iter l 0))⟩
  | _, _, _, _ => False
def runeAt (l : List UInt8) (pos : Nat) : Nat × Nat := Utf8.decode ⟨⟨l⟩⟩ pos
def dNextO (r : Nat) (dst : Option Nat) (K : DK) (s : DS) : Option DObj → Prop
  | some (.iter l pos) => (pos < l.length → K ⟨updO s.env dst (.tuple [.bool true, .int .i64 pos, .int .i32 (runeAt l pos).1]), upd s.heap r (some (.iter l (pos + (runeAt l pos).2)))⟩) ∧
      (¬ pos < l.length → dput dst (.tuple [.bool false]) K s)
  | _ => False
def dNext (dst : Option Nat) : Bool → DVal → DK → DS → Prop
  | true, .optr r 0, K, s => dNextO r dst K s (s.heap r)
  | _, _, _, _ => False

def notIface : Option TypeDesc → Bool
  | some (.interface _) | none => false
  | _ => true

def dMakeIface (t : TypeId) (x : DVal) (dst : Option Nat) : Bool → DK → DS → Prop
  | true, K, s => dput dst (.iface t x) K s
  | false, _, _ => False

def dMakeSliceZ (e : TypeId) (size bytes : Nat) (l c : Int) (dst : Option Nat) : Option DVal → DK → DS → Prop
  | some z, K, s => 0 ≤ l ∧ l ≤ c ∧ c * (bytes : Int) ≤ 35184372088832 ∧ c < 9223372036854775808 ∧ z.cells.length = size ∧ 0 < size ∧ DNewS (repl c.toNat z.cells) e size l.toNat c.toNat dst K s
  | none, _, _ => False
def dMakeSlice (P : Program) (dst : Option Nat) : Option TypeDesc → DVal → DVal → DK → DS → Prop
  | some (.slice e), .int _ l, .int _ c, K, s => dMakeSliceZ e (P.cellsOf e) (P.bytesOf e) l c dst (zeroOf P e) K s
  | _, _, _, _, _ => False

/-- The bounds of a slice expression: the low one, the high one, what they must not pass. -/
def dLo : Option DVal → Option Int
  | none => some 0
  | some (.int _ n) => some n
  | _ => none
def dHi (len : Nat) : Option DVal → Option Int
  | none => some len
  | some (.int _ n) => some n
  | _ => none

def dSliceStr (l : List UInt8) (dst : Option Nat) (K : DK) (s : DS) : Option Int → Option Int → Prop
  | some lo, some hi => 0 ≤ lo ∧ lo ≤ hi ∧ hi ≤ l.length ∧ dput dst (.str ((l.drop lo.toNat).take (hi.toNat - lo.toNat))) K s
  | _, _ => False
def dSliceV (size : Nat) (cs : List DVal) (len : Nat) (dst : Option Nat) (K : DK) (s : DS) : Option Int → Option Int → Prop
  | some lo, some hi => 0 ≤ lo ∧ lo ≤ hi ∧ hi ≤ len ∧ dput dst (.vslice ((cs.drop (lo.toNat * size)).take ((hi.toNat - lo.toNat) * size)) (hi.toNat - lo.toNat)) K s
  | _, _ => False
def dSliceO (size r off cap : Nat) (dst : Option Nat) (K : DK) (s : DS) : Option Int → Option Int → Option Int → Prop
  | some lo, some hi, some mx => 0 ≤ lo ∧ lo ≤ hi ∧ hi ≤ mx ∧ mx ≤ cap ∧ dput dst (.oslice size r (off + lo.toNat * size) (hi.toNat - lo.toNat) (mx.toNat - lo.toNat)) K s
  | _, _, _ => False
def dSliceN (dst : Option Nat) (K : DK) (s : DS) : Option Int → Option Int → Prop
  | some lo, some hi => lo = 0 ∧ hi = 0 ∧ dput dst .nilSlice K s
  | _, _ => False

/-- A block of the call's own with that many known cells. -/
def dRoom (n : Nat) : Option DObj → Prop
  | some (.cells cs _) => n ≤ cs.length
  | _ => False

def dSlice (P : Program) (lo hi : Option DVal) (dst : Option Nat) : Option TypeDesc → DVal → Option DVal → DK → DS → Prop
  | some .string, .str l, none, K, s => dSliceStr l dst K s (dLo lo) (dHi l.length hi)
  | some (.slice e), .nilSlice, none, K, s => (P.info? e).isSome = true ∧ dSliceN dst K s (dLo lo) (dHi 0 hi)
  | some (.slice e), .vslice cs len, none, K, s => (P.info? e).isSome = true ∧ dSliceV (P.cellsOf e) cs len dst K s (dLo lo) (dHi len hi)
  | some (.slice e), .oslice sz r off len cap, none, K, s => (P.info? e).isSome = true ∧ sz = P.cellsOf e ∧ dSliceO (P.cellsOf e) r off cap dst K s (dLo lo) (dHi len hi) (some cap)
  | some (.slice e), .oslice sz r off _ cap, some m, K, s => (P.info? e).isSome = true ∧ sz = P.cellsOf e ∧ hi.isSome ∧ dSliceO (P.cellsOf e) r off cap dst K s (dLo lo) (dLo hi) (dLo (some m))
  | some (.array n e), .optr r off, none, K, s => (P.info? e).isSome = true ∧ dRoom (off + n * P.cellsOf e) (s.heap r) ∧ dSliceO (P.cellsOf e) r off n dst K s (dLo lo) (dHi n hi) (some n)
  | some (.array n e), .vptr cs off, none, K, s => (P.info? e).isSome = true ∧ off + n * P.cellsOf e ≤ cs.length ∧ dSliceV (P.cellsOf e) ((cs.drop off).take (n * P.cellsOf e)) n dst K s (dLo lo) (dHi n hi)
  | _, _, _, _, _ => False

def dPtrAdd (n : Nat) : DVal → Option DVal
  | .vptr cs off => some (.vptr cs (off + n))
  | .optr r off => some (.optr r (off + n))
  | _ => none

def dFieldAddrF (P : Program) (x : DVal) (dst : Option Nat) : Option Field → DK → DS → Prop
  | some f, K, s => 0 < P.cellsOf f.type ∧ dputO dst (dPtrAdd f.offset x) K s
  | none, _, _ => False
def dFieldAddr (P : Program) (f : Nat) (x : DVal) (dst : Option Nat) : Option TypeDesc → DK → DS → Prop
  | some (.struct fields), K, s => dFieldAddrF P x dst fields[f]? K s
  | _, _, _ => False

/-- A part of a struct's or an array's cells. -/
def dPart (size : Nat) (cs : List DVal) (off : Nat) (dst : Option Nat) : Option Bool → DK → DS → Prop
  | some true, K, s => dput dst (.agg ((cs.drop off).take size)) K s
  | some false, K, s => dputO dst cs[off]? K s
  | none, _, _ => False

def dFieldF (P : Program) (cs : List DVal) (dst : Option Nat) : Option Field → DK → DS → Prop
  | some f, K, s => dPart (P.cellsOf f.type) cs f.offset dst (aggB P f.type) K s
  | none, _, _ => False
def dField (P : Program) (f : Nat) (dst : Option Nat) : Option TypeDesc → DVal → DK → DS → Prop
  | some (.struct fields), .agg cs, K, s => dFieldF P cs dst fields[f]? K s
  | _, _, _, _ => False

def dIndexAddr (P : Program) (dst : Option Nat) : Option TypeDesc → DVal → DVal → DK → DS → Prop
  | some (.slice e), .vslice cs len, .int _ i, K, s => (P.info? e).isSome = true ∧ 0 ≤ i ∧ i < len ∧ i.toNat * P.cellsOf e < cs.length ∧ dput dst (.vptr cs (i.toNat * P.cellsOf e)) K s
  | some (.slice e), .oslice _ r off len _, .int _ i, K, s => (P.info? e).isSome = true ∧ 0 ≤ i ∧ i < len ∧ dput dst (.optr r (off + i.toNat * P.cellsOf e)) K s
  | some (.array n e), x, .int _ i, K, s => (P.info? e).isSome = true ∧ 0 ≤ i ∧ i < n ∧ dputO dst (dPtrAdd (i.toNat * P.cellsOf e) x) K s
  | _, _, _, _, _ => False

def dIndex (P : Program) (dst : Option Nat) : Option TypeDesc → DVal → DVal → DK → DS → Prop
  | some (.array n e), .agg cs, .int _ i, K, s => 0 ≤ i ∧ i < n ∧ dPart (P.cellsOf e) cs (i.toNat * P.cellsOf e) dst (aggB P e) K s
  | some .string, .str l, .int _ i, K, s => 0 ≤ i ∧ dputO dst (l[i.toNat]?.map fun b => .int .u8 b.toNat) K s
  | _, _, _, _, _ => False

def dExtract (i : Nat) (dst : Option Nat) : DVal → DK → DS → Prop
  | .tuple vs, K, s => dputO dst vs[i]? K s
  | _, _, _ => False

def dAssertZ (dst : Option Nat) : Option DVal → DK → DS → Prop
  | some z, K, s => dput dst (.tuple [z, .bool false]) K s
  | none, _, _ => False
def dAssertIs (v : DVal) (z : Option DVal) (dst : Option Nat) : Bool → Bool → DK → DS → Prop
  | true, true, K, s => dput dst (.tuple [v, .bool true]) K s
  | true, false, K, s => dAssertZ dst z K s
  | false, true, K, s => dput dst v K s
  | false, false, _, _ => False
def dTypeAssert (P : Program) (asserted : TypeId) (commaOk : Bool) (dst : Option Nat) : Bool → DVal → DK → DS → Prop
  | true, .iface t v, K, s => dAssertIs v (zeroOf P asserted) dst commaOk (decide (t = asserted)) K s
  | true, .nilIface, K, s => commaOk = true ∧ dAssertZ dst (zeroOf P asserted) K s
  | _, _, _, _ => False

def dLen (dst : Option Nat) : Option TypeDesc → DVal → DK → DS → Prop
  | some .string, .str l, K, s => dput dst (.int .i64 l.length) K s
  | some (.array n _), _, K, s => dput dst (.int .i64 n) K s
  | some (.slice _), .nilSlice, K, s => dput dst (.int .i64 0) K s
  | some (.slice _), .vslice _ n, K, s => dput dst (.int .i64 n) K s
  | some (.slice _), .oslice _ _ _ n _, K, s => dput dst (.int .i64 n) K s
  | _, _, _, _ => False

def dLenTs (P : Program) (x : DVal) (dst : Option Nat) : List TypeId → DK → DS → Prop
  | [t], K, s => dLen dst (P.underlying t) x K s
  | _, _, _ => False

/-- The cells of what is appended. -/
def srcCellsO (size n off : Nat) : Option DObj → Option (Nat × List DVal)
  | some (.cells cs _) => some (n, (cs.drop off).take (n * size))
  | _ => none
def srcCells (size : Nat) (H : DHeap) : DVal → Option (Nat × List DVal)
  | .nilSlice => some (0, [])
  | .vslice cs n => some (n, cs.take (n * size))
  | .oslice _ r off n _ => srcCellsO size n off (H r)
  | .str l => some (l.length, l.map fun b => .int .u8 b.toNat)
  | _ => none

/-- append to a slice of the call's own: in place, where its room is known; else the old block is let go (but where less room is known than there are elements: then it is kept). -/
def dAppendO (e : TypeId) (size bytes : Nat) (r off len lo : Nat) (n : Nat) (news : List DVal) (dst : Option Nat) (K : DK) (s : DS) : Option DObj → Prop
  | some (.cells cs e') => e' = e ∧
    (len + n ≤ lo → off + (len + n) * size ≤ cs.length ∧
        K ⟨updO s.env dst (.oslice size r off (len + n) lo), upd s.heap r (some (.cells (splice cs (off + len * size) news) e))⟩) ∧
    (¬ len + n ≤ lo → off + len * size ≤ cs.length ∧ (len + n) * bytes ≤ 35184372088832 ∧
      ∀ r' pre, upd s.heap r none r' = none → (off = 0 → pre = []) →
        K ⟨updO s.env dst (.oslice size r' pre.length (len + n) (len + n)), upd (if len ≤ lo ∨ r' = r then upd s.heap r none else s.heap) r' (some (.cells (pre ++ (cs.drop off).take (len * size) ++ news) e))⟩)
  | _ => False

def dAppendTo (e : TypeId) (size bytes : Nat) (n : Nat) (news : List DVal) (dst : Option Nat) : DVal → DK → DS → Prop
  | .nilSlice, K, s => (n = 0 → dput dst .nilSlice K s) ∧ (n ≠ 0 → n * bytes ≤ 35184372088832 ∧ DNewS news e size n n dst K s)
  | .oslice sz r off len lo, K, s => sz = size ∧ dAppendO e size bytes r off len lo n news dst K s (s.heap r)
  | _, _, _ => False

def dAppendN (e : TypeId) (size bytes : Nat) (x : DVal) (dst : Option Nat) : Option (Nat × List DVal) → DK → DS → Prop
  | some (n, news), K, s => news.length = n * size ∧ news.all (·.one) = true ∧ dAppendTo e size bytes n news dst x K s
  | none, _, _ => False

/-- Is it a slice's type, or a string's? -/
def notInt : Option TypeDesc → Bool
  | some (.slice _) => true
  | some .string => true
  | _ => false

def dAppend (P : Program) (u' : Bool) (x y : DVal) (dst : Option Nat) : Option TypeDesc → DK → DS → Prop
  | some (.slice e), K, s => u' = true ∧ (zeroOf P e).isSome = true ∧ (zeroOf P e).all (fun z => z.cells.length = P.cellsOf e) = true ∧ 0 < P.cellsOf e ∧ 0 < P.bytesOf e ∧ dAppendN e (P.cellsOf e) (P.bytesOf e) x dst (srcCells (P.cellsOf e) s.heap y) K s
  | _, _, _ => False

/-- cap: of a slice nothing is known but that what is known of it fits. -/
def dCap (dst : Option Nat) : Option TypeDesc → DVal → DK → DS → Prop
  | some (.slice _), .nilSlice, K, s => dput dst (.int .i64 0) K s
  | some (.slice _), .vslice _ n, K, s => ∀ c : Nat, n ≤ c → dput dst (.int .i64 c) K s
  | some (.slice _), .oslice _ _ _ n lo, K, s => ∀ c : Nat, n ≤ c → lo ≤ c → dput dst (.int .i64 c) K s
  | _, _, _, _ => False
def dCapTs (P : Program) (x : DVal) (dst : Option Nat) : List TypeId → DK → DS → Prop
  | [t], K, s => dCap dst (P.underlying t) x K s
  | _, _, _ => False

/-- append of so many zeros to nil ('append(s, make([]E, n)...)'). -/
def dAppendI (e : TypeId) (size bytes : Nat) (dst : Option Nat) : DVal → DVal → Option DVal → DK → DS → Prop
  | .nilSlice, .int .i64 n, some z, K, s => 0 ≤ n ∧ 0 < size ∧ (n = 0 → dput dst .nilSlice K s) ∧ (n ≠ 0 → n * bytes ≤ 35184372088832 ∧ n ≤ 35184372088832 ∧ z.cells.length = size ∧ DNewS (repl n.toNat z.cells) e size n.toNat n.toNat dst K s)
  | _, _, _, _, _ => False

/-- clear of a slice. -/
def dClearO (size : Nat) (r off n : Nat) (dst : Option Nat) (K : DK) (s : DS) (z : List DVal) : Option DObj → Prop
  | some (.cells cs e) => z.length = size ∧ z.all (·.one) = true ∧ off + n * size ≤ cs.length ∧ K ⟨updO s.env dst (.tuple []), upd s.heap r (some (.cells (splice cs off (repl n z)) e))⟩
  | _ => False
def dClearS (size : Nat) (dst : Option Nat) : Option DVal → DVal → DK → DS → Prop
  | some _, .nilSlice, K, s => dput dst (.tuple []) K s
  | some z, .oslice sz r off n lo, K, s => sz = size ∧ n ≤ lo ∧ dClearO size r off n dst K s z.cells (s.heap r)
  | _, _, _, _ => False
def dClear (P : Program) (dst : Option Nat) : Option TypeDesc → DVal → DK → DS → Prop
  | some (.slice e), x, K, s => dClearS (P.cellsOf e) dst (zeroOf P e) x K s
  | _, _, _, _ => False
def dClearTs (P : Program) (x : DVal) (dst : Option Nat) : List TypeId → DK → DS → Prop
  | [t], K, s => dClear P dst (P.underlying t) x K s
  | _, _, _ => False

def isIntT : Option TypeDesc → Bool
  | some (.int _) => true
  | _ => false
def dAppendX (P : Program) (x y : DVal) (dst : Option Nat) : Option TypeDesc → DK → DS → Prop
  | some (.slice e), K, s => dAppendI e (P.cellsOf e) (P.bytesOf e) dst x y (zeroOf P e) K s
  | _, _, _ => False
def dAppendU (P : Program) (x y : DVal) (dst : Option Nat) : Bool → Bool → Option TypeDesc → DK → DS → Prop
  | true, _, t, K, s => dAppendX P x y dst t K s
  | false, u', t, K, s => dAppend P u' x y dst t K s

def dAppendTs (P : Program) (x y : DVal) (dst : Option Nat) : List TypeId → DK → DS → Prop
  | [t, t'], K, s => dAppendU P x y dst (isIntT (P.underlying t')) (notInt (P.underlying t')) (P.underlying t) K s
  | _, _, _ => False

/-- Are two keys the same? -/
def dKey : DVal → DVal → Option Bool
  | .int k a, .int k' b => if k = k' then some (decide (a = b)) else none
  | .str a, .str b => some (decide (a = b))
  | .bool a, .bool b => some (decide (a = b))
  | .agg [.bool a, .bool b], .agg [.bool c, .bool d] => some (decide (a = c) && decide (b = d))
  | _, _ => none
/-- The place of a key (none within: it is not there; none: it cannot be told). -/
def dFindS (i : Nat) (r : Option (Option Nat)) : Option Bool → Option (Option Nat)
  | some true => some (some i)
  | some false => r
  | none => none
def dFind (k : DVal) : List (DVal × DVal) → Nat → Option (Option Nat)
  | [], _ => some none
  | p :: es, i => dFindS i (dFind k es (i + 1)) (dKey k p.1)
/-- Is it a value of a key's type? -/
def dKeyT : Option TypeDesc → DVal → Bool
  | some (.int k), .int k' _ => decide (k = k')
  | some .string, .str _ => true
  | some .bool, .bool _ => true
  | _, _ => false

def isBoolT : Option TypeDesc → Bool
  | some .bool => true
  | _ => false
/-- Is it a type of pairs of truth values? -/
def isB2T (P : Program) : Option TypeDesc → Bool
  | some (.array 2 e) => isBoolT (P.underlying e) && (P.info? e).isSome && P.cellsOf e == 1
  | _ => false
def dKeyP (P : Program) (t : Option TypeDesc) : DVal → Bool
  | .agg [.bool _, .bool _] => isB2T P t
  | k => dKeyT t k

def dMapSet (es : List (DVal × DVal)) (k v : DVal) : Option Nat → List (DVal × DVal)
  | some i => es.set i (k, v)
  | none => es ++ [(k, v)]
def dMapUpdF (r : Nat) (es : List (DVal × DVal)) (k v : DVal) (K : DK) (s : DS) : Option (Option Nat) → Prop
  | some i => K ⟨s.env, upd s.heap r (some (.map (dMapSet es k v i)))⟩
  | none => False
def dMapUpdO (r : Nat) (k v : DVal) (K : DK) (s : DS) : Option DObj → Prop
  | some (.map es) => v.one = true ∧ dMapUpdF r es k v K s (dFind k es 0)
  | _ => False
def dMapUpd (P : Program) (dst : Option Nat) : Option TypeDesc → DVal → DVal → DVal → DK → DS → Prop
  | some (.map kt _), .omap r, k, v, K, s => dst = none ∧ dKeyP P (P.underlying kt) k = true ∧ dMapUpdO r k v K s (s.heap r)
  | _, _, _, _, _, _ => False

def dLookR (ok : Bool) (dst : Option Nat) (v : DVal) (b : Bool) (K : DK) (s : DS) : Prop := dput dst (if ok then .tuple [v, .bool b] else v) K s
def dLookF (es : List (DVal × DVal)) (ok : Bool) (dst : Option Nat) : Option DVal → Option (Option Nat) → DK → DS → Prop
  | _, some (some i), K, s => ∃ p, es[i]? = some p ∧ dLookR ok dst p.2 true K s
  | some z, some none, K, s => dLookR ok dst z false K s
  | _, _, _, _ => False
def dLookO (z : Option DVal) (k : DVal) (ok : Bool) (dst : Option Nat) : Option DObj → DK → DS → Prop
  | some (.map es), K, s => dLookF es ok dst z (dFind k es 0) K s
  | _, _, _ => False
def dLookup (P : Program) (ok : Bool) (dst : Option Nat) : Option TypeDesc → DVal → DVal → DK → DS → Prop
  | some (.map kt e), .omap r, k, K, s => dKeyP P (P.underlying kt) k = true ∧ dLookO (zeroOf P e) k ok dst (s.heap r) K s
  | some (.map kt e), .nilMap, k, K, s => dKeyP P (P.underlying kt) k = true ∧ dLookF [] ok dst (zeroOf P e) (some none) K s
  | _, _, _, _, _ => False

def dMapDelS (es : List (DVal × DVal)) : Option Nat → List (DVal × DVal)
  | some i => es.eraseIdx i
  | none => es
def dMapDelF (r : Nat) (es : List (DVal × DVal)) (dst : Option Nat) (K : DK) (s : DS) : Option (Option Nat) → Prop
  | some i => K ⟨updO s.env dst (.tuple []), upd s.heap r (some (.map (dMapDelS es i)))⟩
  | none => False
def dMapDelO (r : Nat) (k : DVal) (dst : Option Nat) (K : DK) (s : DS) : Option DObj → Prop
  | some (.map es) => dMapDelF r es dst K s (dFind k es 0)
  | _ => False
def dMapDel (P : Program) (dst : Option Nat) : Option TypeDesc → DVal → DVal → DK → DS → Prop
  | some (.map kt _), .omap r, k, K, s => dKeyP P (P.underlying kt) k = true ∧ dMapDelO r k dst K s (s.heap r)
  | _, _, _, _, _ => False
def dMapDelTs (P : Program) (x k : DVal) (dst : Option Nat) : List TypeId → DK → DS → Prop
  | t :: _, K, s => dMapDel P dst (P.underlying t) x k K s
  | _, _, _ => False

/-- A new map. -/
def DNewM (dst : Option Nat) (K : DK) (s : DS) : Prop :=
  ∀ r, s.heap r = none → K ⟨updO s.env dst (.omap r), upd s.heap r (some (.map []))⟩
def dMakeMap (dst : Option Nat) : Option TypeDesc → Option DVal → DK → DS → Prop
  | some (.map _ _), none, K, s => DNewM dst K s
  | some (.map _ _), some (.int _ _), K, s => DNewM dst K s
  | _, _, _, _ => False

def dMM (isMax : Bool) : DVal → DVal → Option DVal
  | .int k x, .int _ y => some (.int k (if isMax then (if y > x then y else x) else (if y < x then y else x)))
  | _, _ => none
def dMinMaxL (isMax : Bool) : Option DVal → List DVal → Option DVal
  | a, [] => a
  | some x, y :: ys => dMinMaxL isMax (dMM isMax x y) ys
  | none, _ => none
def dMinMax (isMax : Bool) : List DVal → Option DVal
  | [] => none
  | x :: rest => dMinMaxL isMax (some x) rest

def DAfter (dst : Option Nat) (K : DK) (Q : DExit → DS → Prop) (env : Nat → DVal) : DEnd → DHeap → Prop
  | .ret v, H => K ⟨updO env dst v, H⟩
  | .panic v, H => Q (.panic v) ⟨env, H⟩

def dCallV (P : Program) (G : Nat → DVal) (args : List DVal) (dst : Option Nat) (Q : DExit → DS → Prop) : DVal → DK → DS → Prop
  | .func (.func k) first captured, K, s => DCalls P G k (first ++ args ++ captured) s.heap (DAfter dst K Q s.env)
  | .func (.yield l) [] [], K, s => DYields P G l args s.heap (DAfter dst K Q s.env)
  | _, _, _ => False

def dPanic (Q : DExit → DS → Prop) (s : DS) : DVal → Prop
  | .iface t v => Q (.panic (.iface t v)) s
  | _ => False

def dBuiltin (P : Program) (ts : List TypeId) (dst : Option Nat) (Q : DExit → DS → Prop) : Builtin → List DVal → DK → DS → Prop
  | .len, [x], K, s => dLenTs P x dst ts K s
  | .append, [x, y], K, s => dAppendTs P x y dst ts K s
  | .cap, [x], K, s => dCapTs P x dst ts K s
  | .clear, [x], K, s => dClearTs P x dst ts K s
  | .delete, [x, k], K, s => dMapDelTs P x k dst ts K s
  | .min, xs, K, s => dputO dst (dMinMax false xs) K s
  | .max, xs, K, s => dputO dst (dMinMax true xs) K s
  | .panic, [x], _, s => dPanic Q s x
  | _, _, _, _ => False

def dCallee (P : Program) (G : Nat → DVal) (c : Call) (dst : Option Nat) (K : DK) (Q : DExit → DS → Prop) (s : DS) : Callee → Prop
  | .value f => dCallV P G (devs G s.env c.args.toList) dst Q (dev G s.env f) K s
  | .builtin b => dBuiltin P c.argTypes.toList dst Q b (devs G s.env c.args.toList) K s
  | .invoke _ _ => False

def dparts (G : Nat → DVal) (env : Nat → DVal) : List (Nat × Operand) → List (Nat × DVal)
  | [] => []
  | (i, x) :: ps => (i, dev G env x) :: dparts G env ps

/-- The parameters of a round. -/
def dbind (env : Nat → DVal) : List Nat → List DVal → (Nat → DVal)
  | p :: ps, d :: ds => dbind (upd env p d) ps ds
  | _, _ => env

def devO (G : Nat → DVal) (env : Nat → DVal) : Option Operand → Option DVal
  | some x => some (dev G env x)
  | none => none

def dop (P : Program) (G : Nat → DVal) (dst : Option Nat) (K : DK) (Q : DExit → DS → Prop) (s : DS) : Op → Prop
  | .move x => dput dst (dev G s.env x) K s
  | .assign x => dput dst (dev G s.env x) K s
  | .pick c a b => dPick dst (dev G s.env c) (dev G s.env a) (dev G s.env b) K s
  | .alloc e => dAlloc e dst (zeroOf P e) K s
  | .box e x => DNewP (dev G s.env x).cells e dst K s
  | .build t ps => dBuild P dst (buildOk P t) (P.underlying t) (zeroOf P t) (dparts G s.env ps.toList) K s
  | .buildSlice t n ps => dBuildSlice P n dst (P.underlying t) (dparts G s.env ps.toList) K s
  | .load t a => dLoad (P.cellsOf t) (aggB P t) dst (dev G s.env a) K s
  | .store t a x => (P.info? t).isSome = true ∧ dStore (P.cellsOf t) dst (dev G s.env a) (dev G s.env x) K s
  | .nilCheck x => dNilCheck dst (dev G s.env x) K s
  | .binOp op t x y _ => dBinX P t (isConst x || isConst y) op dst (isNilS y) (dev G s.env x) (dev G s.env y) K s
  | .unOp op _ x => dUn dst op (dev G s.env x) K s
  | .convert src t x => dConvP P dst (P.underlying src) (P.underlying t) (dev G s.env x) K s
  | .makeInterface t x => dMakeIface t (dev G s.env x) dst (notIface (P.underlying t)) K s
  | .makeFunc fn fs cs => dput dst (.func fn (devs G s.env fs.toList) (devs G s.env cs.toList)) K s
  | .makeMap t r => dMakeMap dst (P.underlying t) (devO G s.env r) K s
  | .lookup t x k ok => dLookup P ok dst (P.underlying t) (dev G s.env x) (dev G s.env k) K s
  | .mapUpdate t m k x => dMapUpd P dst (P.underlying t) (dev G s.env m) (dev G s.env k) (dev G s.env x) K s
  | .insert t m k x => dMapUpd P dst (P.underlying t) (dev G s.env m) (dev G s.env k) (dev G s.env x) K s
  | .makeSlice t l c => dMakeSlice P dst (P.underlying t) (dev G s.env l) (dev G s.env c) K s
  | .slice t x lo hi mx => dSlice P (devO G s.env lo) (devO G s.env hi) dst (P.underlying t) (dev G s.env x) (devO G s.env mx) K s
  | .fieldAddr t x f => dFieldAddr P f (dev G s.env x) dst (P.underlying t) K s
  | .field t x f => dField P f dst (P.underlying t) (dev G s.env x) K s
  | .indexAddr t x i => dIndexAddr P dst (P.underlying t) (dev G s.env x) (dev G s.env i) K s
  | .index t x i => dIndex P dst (P.underlying t) (dev G s.env x) (dev G s.env i) K s
  | .typeAssert x _ t ok => dTypeAssert P t ok dst (notIface (P.underlying t)) (dev G s.env x) K s
  | .extract x i => dExtract i dst (dev G s.env x) K s
  | .panic x => dPanic Q s (dev G s.env x)
  | .range t x => dRange dst (P.underlying t) (dev G s.env x) K s
  | .next x b => dNext dst b (dev G s.env x) K s
  | .call c => dCallee P G c dst K Q s c.callee
  | _ => False

def dstOf : List Oper → Nat → Option Nat
  | [], _ => none
  | o :: _, 0 => o.dst
  | _ :: r, n + 1 => dstOf r n

/-- The operations of a region, in the text's order. -/
def dwps (P : Program) (G : Nat → DVal) (all : List Oper) (Q : DExit → DS → Prop) : List Oper → DS → Prop
  | [], s => Q .normal s
  | o :: rest, s =>
    match o.guard with
    | none => dop P G o.dst (dwps P G all Q rest) Q s o.op
    | some (j, b) => match dstOf all j with
      | some g => match s.env g with
        | .bool v => (v = b → dop P G o.dst (dwps P G all Q rest) Q s o.op) ∧ (v ≠ b → dput o.dst dundef (dwps P G all Q rest) s)
        | .tuple [] => dput o.dst dundef (dwps P G all Q rest) s
        | _ => False
      | none => False

/-- An operation that is guarded, by the value of its guard. -/
def dGuard (P : Program) (G : Nat → DVal) (all : List Oper) (Q : DExit → DS → Prop) (dst : Option Nat) (op : Op) (rest : List Oper) (s : DS) : Bool → DVal → Prop
  | true, .bool true => dop P G dst (dwps P G all Q rest) Q s op
  | true, .bool false => dput dst dundef (dwps P G all Q rest) s
  | false, .bool true => dput dst dundef (dwps P G all Q rest) s
  | false, .bool false => dop P G dst (dwps P G all Q rest) Q s op
  | true, .tuple [] => dput dst dundef (dwps P G all Q rest) s
  | false, .tuple [] => dput dst dundef (dwps P G all Q rest) s
  | _, _ => False

def dGuardO (P : Program) (G : Nat → DVal) (all : List Oper) (Q : DExit → DS → Prop) (dst : Option Nat) (op : Op) (rest : List Oper) (s : DS) (b : Bool) : Option Nat → Prop
  | some g => dGuard P G all Q dst op rest s b (s.env g)
  | none => False

def DSeqQ (W : DK) (Q : DExit → DS → Prop) : DExit → DS → Prop
  | .normal, s => W s
  | .exit id, s => Q (.exit id) s
  | .goto l, s => Q (.goto l) s
  | .ret, s => Q .ret s
  | .panic v, s => Q (.panic v) s

def dBlockE (Q : DExit → DS → Prop) (s : DS) (id' : Nat) : Bool → Prop
  | true => Q .normal s
  | false => Q (.exit id') s

def DBlockQ (id : Nat) (Q : DExit → DS → Prop) : DExit → DS → Prop
  | .exit id', s => dBlockE Q s id' (decide (id' = id))
  | .normal, s => Q .normal s
  | .goto l, s => Q (.goto l) s
  | .ret, s => Q .ret s
  | .panic v, s => Q (.panic v) s

/-- A scope through which the run goes without a goto. -/
def DScopeQ (Q : DExit → DS → Prop) : DExit → DS → Prop
  | .goto _, _ => False
  | .exit id, s => Q (.exit id) s
  | .normal, s => Q .normal s
  | .ret, s => Q .ret s
  | .panic v, s => Q (.panic v) s

def dCond (X Y : DK) (s : DS) : DVal → Prop
  | .bool true => X s
  | .bool false => Y s
  | _ => False

/-- The same state with less in it: blocks let go, slices of the call's own seen as memory that lasts. -/
def GhostS (G : Nat → DVal) (s s' : DS) : Prop :=
  ∀ w, SimHeap w s.heap → GOk G w s.heap → SimHeap w s'.heap ∧ (∀ b, s'.heap b ≠ none → s.heap b ≠ none) ∧ GOk G w s'.heap ∧ ∀ i x, Rel w s.heap (s.env i) x → Rel w s'.heap (s'.env i) x

/-- A loop: what holds at each round's head, and what goes down. -/
def DLoop (G : Nat → DVal) (body : (DExit → DS → Prop) → DK) (Q : DExit → DS → Prop) (s : DS) : Prop :=
  ∃ (ι : Type) (I : ι → DS → Prop) (μ : ι → Nat), (∃ i s', GhostS G s s' ∧ I i s') ∧ ∀ i s, I i s → body (DSeqQ (fun s1 => ∃ j s2, GhostS G s1 s2 ∧ I j s2 ∧ μ j < μ i) Q) s

def dwp (P : Program) (G : Nat → DVal) (N : Nat) : Code → (DExit → DS → Prop) → DS → Prop
  | .skip, Q, s => Q .normal s
  | .label _, Q, s => Q .normal s
  | .region _ ops false, Q, s => dwps P G ops.toList Q ops.toList s
  | .region id ops true, Q, s => DWp P G N (.region id ops true) Q s
  | .seq a b, Q, s => dwp P G N a (DSeqQ (dwp P G N b Q) Q) s
  | .cond c a b, Q, s => dCond (dwp P G N a Q) (dwp P G N b Q) s (dev G s.env c)
  | .block id c, Q, s => dwp P G N c (DBlockQ id Q) s
  | .loop c, Q, s => DLoop G (dwp P G N c) Q s
  | .exit id, Q, s => Q (.exit id) s
  | .goto l, Q, s => Q (.goto l) s
  | .ret, Q, s => Q .ret s
  | .rangeFunc f ps asg body, Q, s => DWp0 P G N (.rangeFunc f ps asg body) Q s
  | .scope c, Q, s => dwp P G N c (DScopeQ Q) s
  | .refuse _, _, _ => False

/-- Every slot that is named lies in the frame. -/
def opdOk (N : Nat) : Operand → Bool
  | .tmp t => decide (t < N)
  | _ => true
def operOk (N : Nat) (o : Oper) : Bool :=
  (match o.dst with | some d => decide (d < N) | none => true) && o.op.operands.all (opdOk N)
def codeOk (N : Nat) : Code → Bool
  | .region _ ops _ => ops.all (operOk N)
  | .seq a b => codeOk N a && codeOk N b
  | .cond c a b => opdOk N c && codeOk N a && codeOk N b
  | .block _ c => codeOk N c
  | .loop c => codeOk N c
  | .scope c => codeOk N c
  | .rangeFunc f _ a b => opdOk N f && codeOk N a && codeOk N b
  | _ => true

@[go_sem] theorem dKeyP_int (P : Program) (t : Option TypeDesc) (k : IntKind) (n : Int) : dKeyP P t (.int k n) = dKeyT t (.int k n) := rfl
@[go_sem] theorem dKeyP_str (P : Program) (t : Option TypeDesc) (l : List UInt8) : dKeyP P t (.str l) = dKeyT t (.str l) := rfl
@[go_sem] theorem dKeyP_bool (P : Program) (t : Option TypeDesc) (b : Bool) : dKeyP P t (.bool b) = dKeyT t (.bool b) := rfl
theorem dBinX_false {P : Program} {s : DS} {t : TypeId} {c : Bool} {op : BinOp} {dst : Option Nat} {x y : DVal} {K : DK} : dBinX P t c op dst false x y K s = dBin P t c op dst x y K s := by cases x <;> rfl

end Go.Dl

-- THE DATA LEVEL, PART S: what the data level says of an operation is true of the model's operation: the world, memory.
namespace Go.Dl
open Go

section
variable {P : Program} {G : Nat → DVal} {N : Fr}

mutual
theorem rel_ofVal (w : World) (H : DHeap) : ∀ v : Value, Rel w H (ofVal v) v
  | .bool b => by simp [ofVal, Rel]
  | .int k n => by simp [ofVal, Rel]
  | .string ⟨⟨l⟩⟩ => by simp [ofVal, Rel]
  | .pointer none => by simp [ofVal, Rel]
  | .pointer (some a) => by simp [ofVal, Rel, Value.oneCell']
  | .slice a n c => by
    by_cases h : a = none ∧ n = 0 ∧ c = 0
    · obtain ⟨rfl, rfl, rfl⟩ := h; simp [ofVal, Rel]
    · have : ofVal (.slice a n c) = .raw (.slice a n c) := by
        cases a with
        | none => cases n with
          | zero => cases c with
            | zero => simp at h
            | succ c => rfl
          | succ n => rfl
        | some a => rfl
      rw [this]; simp [Rel, Value.oneCell']
  | .map none => by simp [ofVal, Rel]
  | .map (some r) => by simp [ofVal, Rel, Value.oneCell']
  | .chan r => by simp [ofVal, Rel, Value.oneCell']
  | .float k b => by simp [ofVal, Rel, Value.oneCell']
  | .complex k a b => by simp [ofVal, Rel, Value.oneCell']
  | .nilFunc => by simp [ofVal, Rel]
  | .nilIface => by simp [ofVal, Rel]
  | .iface t v => by simp [ofVal, Rel, Value.oneCell']
  | .func fn ⟨a⟩ ⟨c⟩ => by
    simp only [ofVal, Rel]
    exact ⟨_, _, rfl, rel_ofVals w H a, rel_ofVals w H c⟩
  | .agg ⟨l⟩ => by
    simp only [ofVal, Rel]
    exact ⟨_, rfl, rel_ofVals w H l⟩
  | .tuple ⟨l⟩ => by
    simp only [ofVal, Rel]
    exact ⟨_, rfl, rel_ofVals w H l⟩
theorem rel_ofVals (w : World) (H : DHeap) : ∀ vs : List Value, RelL w H (ofVals vs) vs
  | [] => by simp [ofVals, RelL]
  | v :: vs => by
    simp only [ofVals, RelL]
    exact ⟨v, vs, rfl, rel_ofVal w H v, rel_ofVals w H vs⟩
end

theorem rel_dundef (w : World) (H : DHeap) : Rel w H dundef undef := by
  simp only [dundef, undef, Rel]
  exact ⟨#[], rfl, by simp [RelL]⟩

theorem rel_dev {s : DS} {a : Act} {w : World} (hS : Sim G N s a w) {x : Operand} (hx : opdOk N x = true) : Rel w s.heap (dev G s.env x) (a.eval x) := by
  cases x with
  | tmp t => exact hS.tmps t (by simpa [opdOk] using hx)
  | const v => exact rel_ofVal w s.heap v
  | global g => exact hS.glob.rel g
  | func f =>
    simp only [dev, Act.eval, Rel]
    exact ⟨#[], #[], rfl, by simp [RelL], by simp [RelL]⟩

theorem rel_devs {s : DS} {a : Act} {w : World} (hS : Sim G N s a w) : ∀ {xs : List Operand}, xs.all (opdOk N) = true → RelL w s.heap (devs G s.env xs) (xs.map a.eval)
  | [], _ => by simp [devs, RelL]
  | x :: xs, h => by
    simp only [List.all_cons, Bool.and_eq_true] at h
    simp only [devs, RelL, List.map_cons]
    exact ⟨_, _, rfl, rel_dev hS h.1, rel_devs hS h.2⟩

/-- The slot that is written lies in the frame. -/
def dstOk (N : Nat) : Option Nat → Bool
  | some d => decide (d < N)
  | none => true

theorem GOk.lasts {H H' : DHeap} {w w' : World} (h : Lasts H w H' w') (hg : GOk G w H) : GOk G w' H' := ⟨fun g => Rel.lasts h _ _ (hg.rel g), fun g cs e => by
  have k := hg.exact g cs e
  rw [h.keep g ?_]; exact k
  rcases Nat.lt_or_ge g w.heap.size with hl | hl
  · exact hl
  · rw [Array.getElem?_eq_none hl] at k; cases k⟩

theorem Sim.ext {s : DS} {a : Act} {w w' : World} {H' : DHeap} (hS : Sim G N s a w) (hE : Ext s.heap w H' w') (hH : SimHeap w' H') : Sim G N ⟨s.env, H'⟩ a w' :=
  ⟨hS.size, hS.defers.ext hE, fun i hi => Rel.lasts hE.lasts _ _ (hS.tmps i hi), hH, hS.glob.lasts hE.lasts, Nat.le_trans hS.base hE.size⟩

theorem Sim.put {s : DS} {a : Act} {w : World} (hS : Sim G N s a w) {dst : Option Nat} (hd : dstOk N dst = true) {v : DVal} {x : Value} (hv : Rel w s.heap v x) :
    Sim G N ⟨updO s.env dst v, s.heap⟩ (a.put dst x) w := by
  cases dst with
  | none => exact hS
  | some d =>
    have hd' : d < N := by simpa [dstOk] using hd
    refine ⟨by simpa [Act.put] using hS.size, by simpa [Act.put] using hS.defers, fun i hi => ?_, hS.heap, hS.glob, hS.base⟩
    have hsz := hS.size
    simp only [Act.put, updO, upd]
    by_cases e : i = d
    · subst e
      have : (a.tmps.setIfInBounds i x).getD i undef = x := by simp [Array.getD, hsz, hi]
      rw [this, if_pos rfl]; exact hv
    · have h1 : (a.tmps.setIfInBounds d x).getD i undef = a.tmps.getD i undef := by
        simp [Array.getD, hsz, hi, Array.getElem_setIfInBounds, Ne.symm e]
      rw [h1, if_neg e]; exact hS.tmps i hi

def NextS (G : Nat → DVal) (N : Fr) (K : DK) (s : DS) (w : World) : Act → World → Prop :=
  fun a' w' => ∃ s', K s' ∧ Sim G N s' a' w' ∧ Ext s.heap w s'.heap w'
def ExitS (G : Nat → DVal) (N : Fr) (Q : DExit → DS → Prop) (s : DS) (w : World) : Exit → Act → World → Prop :=
  fun e a' w' => ∃ e' s', Q e' s' ∧ RelX w' s'.heap e' e ∧ Sim G N s' a' w' ∧ Ext s.heap w s'.heap w'

variable {o : Oper} {s : DS} {a : Act} {w : World} {K : DK} {Qx : Exit → Act → World → Prop}

theorem op_world {w' : World} {H' : DHeap} {v : DVal} {x : Value} (hS : Sim G N s a w) (hd : dstOk N o.dst = true) (hrun : (execOp a.eval o).run P w = .ok (.value x) w')
    (hE : Ext s.heap w H' w') (hH : SimHeap w' H') (hv : Rel w' H' v x) (hK : K ⟨updO s.env o.dst v, H'⟩) : o.wp P a w (NextS G N K s w) Qx := by
  unfold Oper.wp
  rw [hrun]
  exact ⟨_, hK, (hS.ext hE hH).put hd hv, hE⟩

theorem op_value {v : DVal} {x : Value} (hS : Sim G N s a w) (hd : dstOk N o.dst = true) (hrun : (execOp a.eval o).run P w = .ok (.value x) w)
    (hv : Rel w s.heap v x) (hK : dput o.dst v K s) : o.wp P a w (NextS G N K s w) Qx :=
  op_world hS hd hrun (Ext.refl _ _) hS.heap hv hK

/-- An operation that only yields a value. -/
def PV (P : Program) (o : Oper) (s : DS) (a : Act) (w : World) (K : DK) : Prop :=
  ∃ d x, (execOp a.eval o).run P w = .ok (.value x) w ∧ Rel w s.heap d x ∧ dput o.dst d K s

theorem pvI {v : DVal} {x : Value} (_hS : Sim G N s a w) (_hd : dstOk N o.dst = true) (hrun : (execOp a.eval o).run P w = .ok (.value x) w)
    (hv : Rel w s.heap v x) (hK : dput o.dst v K s) : PV P o s a w K := ⟨v, x, hrun, hv, hK⟩

theorem PV.wp (h : PV P o s a w K) (hS : Sim G N s a w) (hd : dstOk N o.dst = true) : o.wp P a w (NextS G N K s w) Qx := by
  obtain ⟨d, x, h1, h2, h3⟩ := h
  exact op_value hS hd h1 h2 h3

theorem pv_int {k : IntKind} {n : Int} (hS : Sim G N s a w) (hd : dstOk N o.dst = true) (hrun : (execOp a.eval o).run P w = .ok (.value (.int k n)) w) (hK : dput o.dst (.int k n) K s) : PV P o s a w K :=
  pvI hS hd hrun (by simp [Rel]) hK
theorem pv_bool {b : Bool} (hS : Sim G N s a w) (hd : dstOk N o.dst = true) (hrun : (execOp a.eval o).run P w = .ok (.value (.bool b)) w) (hK : dput o.dst (.bool b) K s) : PV P o s a w K :=
  pvI hS hd hrun (by simp [Rel]) hK

theorem Ext.drawn {H : DHeap} {w w' : World} {H' : DHeap} (h : Ext H w H' w') (n : Nat) : Ext H w H' { w' with drawn := n } := ⟨h.os, h.tape, h.output, h.size, h.block, h.own, h.keep, fun a ha hn => h.fz a ha hn⟩

theorem lasts_drawn (H : DHeap) (w : World) (n : Nat) : Lasts H w H { w with drawn := n } := ⟨fun b i x hb hc => ⟨hb, hc⟩, Nat.le_refl _, fun _ _ => rfl⟩

theorem Rel.drawn {w : World} {H : DHeap} (n : Nat) (d : DVal) (v : Value) (h : Rel w H d v) : Rel { w with drawn := n } H d v :=
  Rel.lasts (lasts_drawn H w n) d v h
theorem RelL.drawn {w : World} {H : DHeap} (n : Nat) (d : List DVal) (v : List Value) (h : RelL w H d v) : RelL { w with drawn := n } H d v :=
  RelL.lasts (lasts_drawn H w n) d v h
theorem SimHeap.drawn {w : World} {H : DHeap} (n : Nat) (h : SimHeap w H) : SimHeap { w with drawn := n } H := by
  intro r o ho
  exact (h r o ho).lasts (lasts_drawn H w n)

-- a new block
theorem SimHeap.lt {H : DHeap} (hH : SimHeap w H) {r : Nat} (h : H r ≠ none) : r < w.heap.size := by
  cases e : H r with
  | none => exact (h e).elim
  | some o =>
    obtain ⟨y, h1⟩ := (hH r o e).some
    rcases Nat.lt_or_ge r w.heap.size with hl | hl
    · exact hl
    · rw [Array.getElem?_eq_none hl] at h1; cases h1

theorem SimHeap.fresh {H : DHeap} (hH : SimHeap w H) : H w.heap.size = none := by
  cases e : H w.heap.size with
  | none => rfl
  | some o => exact absurd (hH.lt (r := w.heap.size) (by simp [e])) (by omega)

theorem ext_alloc {H : DHeap} (hH : SimHeap w H) (c : Array Value) (e : TypeId) (o' : Option DObj) : Ext H w (upd H w.heap.size o') (w.alloc (.cells c e)) := by
  have hbl : ∀ b, b < w.heap.size → (w.alloc (.cells c e)).heap[b]? = w.heap[b]? := fun b hb => by
    show (w.heap.push (.cells c e))[b]? = _
    rw [Array.getElem?_push, if_neg (by omega)]
  refine ⟨rfl, rfl, rfl, by simp, fun b hb _ => hbl b hb, fun b hb => ?_, fun b hb => by rw [hbl b hb], fun a _ _ => ?_⟩
  · by_cases eb : b = w.heap.size
    · exact .inr (by omega)
    · simp only [upd, if_neg eb] at hb; exact .inl hb
  · exact Go.RowKit.frozen?_alloc_cells w c e a

theorem RelL.ofList {H : DHeap} {cs : List DVal} {xs : List Value} (h : RelL w H cs xs) {H' : DHeap} {w' : World} (hl : Lasts H w H' w') : RelL w' H' cs xs := RelL.lasts hl _ _ h

theorem simHeap_alloc {H : DHeap} (hH : SimHeap w H) {cs : List DVal} {xs : List Value} (hc : RelL w H cs xs) (c : Array Value) (hx : xs <+: c.toList) (e : TypeId) :
    SimHeap (w.alloc (.cells c e)) (upd H w.heap.size (some (.cells cs e))) := by
  have hE := ext_alloc hH c e (some (.cells cs e))
  intro r o ho
  by_cases hr : r = w.heap.size
  · subst hr
    simp only [upd, if_pos] at ho
    cases ho
    refine ⟨xs, c, (0, 0), ?_, hx, RelL.lasts hE.lasts _ _ hc, fun i _ => by simp⟩
    show (w.heap.push _)[w.heap.size]? = _
    simp
  · simp only [upd, if_neg hr] at ho
    have hlt : r < w.heap.size := hH.lt (by simp [ho])
    have hb : (w.alloc (.cells c e)).heap[r]? = w.heap[r]? := by
      show (w.heap.push _)[r]? = _
      rw [Array.getElem?_push, if_neg (by omega)]
    rw [hb]
    exact (hH r o ho).lasts hE.lasts

theorem op_newP (hS : Sim G N s a w) (hd : dstOk N o.dst = true) {cs : List DVal} {c : Array Value} {e : TypeId}
    (hrun : (execOp a.eval o).run P w = .ok (.value (.pointer (some ⟨w.heap.size, 0, none⟩))) (w.alloc (.cells c e)))
    (hc : RelL w s.heap cs c.toList) (hK : DNewP cs e o.dst K s) : o.wp P a w (NextS G N K s w) Qx :=
  op_world hS hd hrun (ext_alloc hS.heap _ _ _) (simHeap_alloc hS.heap hc c (List.prefix_refl _) e) (by simp [Rel]) (hK _ hS.heap.fresh)

theorem op_newS (hS : Sim G N s a w) (hd : dstOk N o.dst = true) {cs : List DVal} {xs : List Value} {c : Array Value} {e : TypeId} {sz len lo cap n : Nat} (hlo : lo ≤ cap) (hlen : len ≤ cap) (hroom : cap * sz ≤ c.size)
    (hrun : (execOp a.eval o).run P w = .ok (.value (.slice (some ⟨w.heap.size, 0, none⟩) len cap)) { w.alloc (.cells c e) with drawn := n })
    (hc : RelL w s.heap cs xs) (hx : xs <+: c.toList) (hK : DNewS cs e sz len lo o.dst K s) : o.wp P a w (NextS G N K s w) Qx := by
  refine op_world hS hd hrun ((ext_alloc hS.heap _ _ _).drawn n) ((simHeap_alloc hS.heap hc c hx e).drawn n) ?_ (hK _ hS.heap.fresh)
  simp only [Rel]
  refine ⟨0, cap, rfl, hlo, hlen, .inr rfl, ?_⟩
  constructor
  · show w.heap.size < (w.alloc _).heap.size
    simp
  · intro k hk
    have : (w.alloc (.cells c e)).heap[w.heap.size]? = some (.cells c e) := by
      show (w.heap.push _)[w.heap.size]? = _
      simp
    have hk' : csize (w.alloc (.cells c e)).heap[w.heap.size]? = some k := hk
    rw [this] at hk'
    simp [csize] at hk'
    omega

-- reading cells
theorem add_lit (b off n : Nat) : Addr.add ⟨b, off, none⟩ n = ⟨b, off + n, none⟩ := by
  unfold Addr.add; split <;> simp_all

/-- The cells from an address on. -/
def Holds (w : World) (b off : Nat) (xs : List Value) : Prop := ∀ i x, xs[i]? = some x → w.cell? ⟨b, off + i, none⟩ = some x

theorem CellsAt.holds {H : DHeap} {b off : Nat} {xs : List Value} (h : CellsAt w H b off xs) : Holds w b off xs := by
  rcases h with rfl | ⟨_, h⟩
  · intro i x hx; simp at hx
  · exact h

theorem Holds.drop {b off n : Nat} {xs : List Value} (h : Holds w b off xs) : Holds w b (off + n) (xs.drop n) := by
  intro i x hx
  rw [List.getElem?_drop] at hx
  have := h _ _ hx
  rwa [← Nat.add_assoc] at this

theorem Holds.take {b off n : Nat} {xs : List Value} (h : Holds w b off xs) : Holds w b off (xs.take n) := by
  intro i x hx
  rw [List.getElem?_take] at hx
  split at hx
  · exact h _ _ hx
  · cases hx

theorem run_loadCells_holds {b off : Nat} {xs : List Value} (h : Holds w b off xs) : (loadCells ⟨b, off, none⟩ xs.length).run P w = .ok xs.toArray w :=
  run_loadCells_list w ⟨b, off, none⟩ xs fun j v hv => by rw [add_lit]; exact h j v hv

/-- The cells of a block of the call's own. -/
theorem SimHeap.holds {H : DHeap} (hH : SimHeap w H) {r : Nat} {cs : List DVal} {e : TypeId} (hr : H r = some (.cells cs e)) : ∃ xs, RelL w H cs xs ∧ Holds w r 0 xs := by
  obtain ⟨xs, c, fz, h1, h2, h3, _⟩ := hH r _ hr
  refine ⟨xs, h3, fun i x hx => ?_⟩
  have hp : c.toList[i]? = some x := by
    obtain ⟨t, ht⟩ := h2
    rw [← ht, List.getElem?_append_left]
    · exact hx
    · rcases Nat.lt_or_ge i xs.length with hl | hl
      · exact hl
      · rw [List.getElem?_eq_none hl] at hx; cases hx
  simp only [World.cell?, h1, Nat.zero_add, Option.isSome_none, Bool.false_eq_true, if_false]
  simpa using hp

theorem run_isAgg {t : TypeId} {b : Bool} (h : aggB P t = some b) : (isAgg t).run P w = .ok b w := by
  unfold aggB at h
  cases hu : P.underlying t with
  | none => simp [hu] at h
  | some d =>
    simp only [isAgg, Sem.run_bind, run_underlying hu, Result.andThen_ok]
    rw [hu] at h
    cases d <;> simp at h <;> subst h <;> rfl

theorem info_of_underlying {t : TypeId} {d : TypeDesc} (h : P.underlying t = some d) : (P.info? t).isSome = true := by
  unfold Program.underlying at h
  cases hi : P.info? t with
  | none => simp [hi] at h
  | some i => rfl

theorem info_of_agg {t : TypeId} {b : Bool} (h : aggB P t = some b) : (P.info? t).isSome = true := by
  unfold aggB at h
  cases hu : P.underlying t with
  | none => simp [hu] at h
  | some d => exact info_of_underlying hu

theorem run_sizeOf {t : TypeId} (h : (P.info? t).isSome = true) : (sizeOf t).run P w = .ok (P.cellsOf t) w := by
  cases hi : P.info? t with
  | none => simp [hi] at h
  | some i => simp [sizeOf, typeInfo, program, hi, Program.cellsOf, Sem.run]

theorem run_typeInfo {t : TypeId} {i : TypeInfo} (h : P.info? t = some i) : (typeInfo t).run P w = .ok i w := by
  simp [typeInfo, program, h, Sem.run]

theorem run_zero {t : TypeId} {z : DVal} (h : zeroOf P t = some z) : ∃ v, (zeroValue t).run P w = .ok v w ∧ z = ofVal v := by
  unfold zeroOf at h
  cases hi : P.info? t with
  | none => simp [hi] at h
  | some i =>
    cases hz : i.zero with
    | none => simp [hi, hz] at h
    | some v =>
      simp [hi, hz] at h
      exact ⟨v, by simp [zeroValue, run_typeInfo hi, hz], h.symm⟩

theorem run_loadVar_agg {t : TypeId} (h : aggB P t = some true) {b off : Nat} {xs : List Value} (hx : Holds w b off xs) (hl : xs.length = P.cellsOf t) :
    (loadVar t ⟨b, off, none⟩).run P w = .ok (.agg xs.toArray) w := by
  simp only [loadVar, Sem.run_bind, run_isAgg h, Result.andThen_ok, if_true]
  simp only [run_sizeOf (info_of_agg h), Result.andThen_ok, ← hl, run_loadCells_holds hx, Sem.run_bind, Sem.run_pure]

theorem run_loadVar_one {t : TypeId} (h : aggB P t = some false) {b off : Nat} {x : Value} (hx : w.cell? ⟨b, off, none⟩ = some x) :
    (loadVar t ⟨b, off, none⟩).run P w = .ok x w := by
  simp [loadVar, run_isAgg h, hx]

end
end Go.Dl

-- THE DATA LEVEL, PART O: each operation: what the data level asks and does is true of the model's operation.
namespace Go.Dl
open Go

section
variable {P : Program} {G : Nat → DVal} {N : Fr}
variable {o : Oper} {s : DS} {a : Act} {w : World} {K : DK} {Qx : Exit → Act → World → Prop}

theorem dputO_some {dst : Option Nat} {v : Option DVal} (h : dputO dst v K s) : ∃ d, v = some d ∧ dput dst d K s := by
  cases v with
  | none => exact h.elim
  | some d => exact ⟨d, rfl, h⟩

theorem holds_at {w : World} {b off : Nat} {xs : List Value} (h : Holds w b off xs) {i : Nat} {x : Value} (hx : xs[i]? = some x) : w.cell? ⟨b, off + i, none⟩ = some x := h i x hx

-- move, assign, pick
theorem s_move (hS : Sim G N s a w) (hd : dstOk N o.dst = true) {x : Operand} (hx : opdOk N x = true) (he : o.op = .move x) (h : dput o.dst (dev G s.env x) K s) : PV P o s a w K :=
  pvI hS hd (by simp [execOp, he]) (rel_dev hS hx) h
theorem s_assign (hS : Sim G N s a w) (hd : dstOk N o.dst = true) {x : Operand} (hx : opdOk N x = true) (he : o.op = .assign x) (h : dput o.dst (dev G s.env x) K s) : PV P o s a w K :=
  pvI hS hd (by simp [execOp, he]) (rel_dev hS hx) h
theorem s_pick (hS : Sim G N s a w) (hd : dstOk N o.dst = true) {c x y : Operand} (hc : opdOk N c = true) (hx : opdOk N x = true) (hy : opdOk N y = true) (he : o.op = .pick c x y)
    (h : dPick o.dst (dev G s.env c) (dev G s.env x) (dev G s.env y) K s) : PV P o s a w K := by
  have r := rel_dev hS hc
  cases hcv : dev G s.env c <;> rw [hcv] at h r <;> try exact h.elim
  rename_i t
  simp only [Rel] at r
  simp only [dPick] at h
  refine pvI hS hd (x := if t then a.eval x else a.eval y) (by simp [execOp, he, r, asBool]) ?_ h
  cases t
  · exact rel_dev hS hy
  · exact rel_dev hS hx

theorem cells_rel {H : DHeap} {d : DVal} {v : Value} (h : Rel w H d v) : RelL w H d.cells v.cells.toList := Rel.cells h

-- new variables
theorem s_alloc (hS : Sim G N s a w) (hd : dstOk N o.dst = true) {e : TypeId} (he : o.op = .alloc e) (h : dAlloc e o.dst (zeroOf P e) K s) : o.wp P a w (NextS G N K s w) Qx := by
  cases hz : zeroOf P e with
  | none => rw [hz] at h; exact h.elim
  | some z =>
    rw [hz] at h
    obtain ⟨v, hv, rfl⟩ := run_zero (w := w) hz
    refine op_newP hS hd (c := v.cells) ?_ ?_ h
    · simp [execOp, he, Instr.alloc, hv, newVar, newRow]
    · exact cells_rel (rel_ofVal w s.heap v)

theorem s_box (hS : Sim G N s a w) (hd : dstOk N o.dst = true) {e : TypeId} {x : Operand} (hx : opdOk N x = true) (he : o.op = .box e x)
    (h : DNewP (dev G s.env x).cells e o.dst K s) : o.wp P a w (NextS G N K s w) Qx :=
  op_newP hS hd (c := (a.eval x).cells) (by simp [execOp, he, Instr.box, newVar, newRow]) (cells_rel (rel_dev hS hx)) h

-- loads
theorem load_at {size : Nat} {ag : Option Bool} {t : TypeId} (hag : aggB P t = ag) (hsz : P.cellsOf t = size) {b off : Nat} {cs : List DVal} {xs : List Value} {H : DHeap} (hr : RelL w H cs xs) (hh : Holds w b off xs) {i : Nat} {dst : Option Nat}
    (h : dLoadC size dst ag cs i K s) : ∃ d x, (loadVar t ⟨b, off + i, none⟩).run P w = .ok x w ∧ Rel w H d x ∧ dput dst d K s := by
  subst hsz
  cases ag with
  | none => exact h.elim
  | some ag =>
    cases ag with
    | true =>
      obtain ⟨hle, hK⟩ := h
      have hx : Holds w b (off + i) ((xs.drop i).take (P.cellsOf t)) := hh.drop.take
      have hl : ((xs.drop i).take (P.cellsOf t)).length = P.cellsOf t := by
        have := hr.length
        simp; omega
      refine ⟨_, _, run_loadVar_agg hag hx hl, ?_, hK⟩
      simp only [Rel]
      exact ⟨_, rfl, (hr.drop i).take _⟩
    | false =>
      obtain ⟨d, hd, hK⟩ := dputO_some h
      obtain ⟨x, hx, hrel⟩ := hr.get hd
      exact ⟨d, x, run_loadVar_one hag (hh i x hx), hrel, hK⟩

theorem s_load (hS : Sim G N s a w) (hd : dstOk N o.dst = true) {t : TypeId} {x : Operand} (hx : opdOk N x = true) (he : o.op = .load t x)
    (h : dLoad (P.cellsOf t) (aggB P t) o.dst (dev G s.env x) K s) : PV P o s a w K := by
  have r := rel_dev hS hx
  cases hv : dev G s.env x <;> rw [hv] at h r <;> try exact h.elim
  case vptr cs off =>
    simp only [Rel] at r
    obtain ⟨b, o', xs, hp, hc, hl⟩ := r
    obtain ⟨d, y, hrun, hrel, hK⟩ := load_at (P := P) (t := t) rfl rfl hl hc.holds h
    refine pvI hS hd ?_ hrel hK
    simp [execOp, he, hp, Instr.loadAt, Instr.sureAddr, hrun]
  case optr r0 off =>
    simp only [Rel] at r
    simp only [dLoad] at h
    cases hh : s.heap r0 with
    | none => rw [hh] at h; exact h.elim
    | some ob =>
      rw [hh] at h
      cases ob with
      | loop => exact h.elim
      | iter => exact h.elim
      | map => exact h.elim
      | cells cs e =>
        obtain ⟨xs, hl, hholds⟩ := hS.heap.holds hh
        obtain ⟨d, y, hrun, hrel, hK⟩ := load_at (P := P) (t := t) rfl rfl hl hholds h
        refine pvI hS hd ?_ hrel hK
        simp only [Nat.zero_add] at hrun
        simp [execOp, he, r, Instr.loadAt, Instr.sureAddr, hrun]

-- stores
theorem run_storeCells_own (r off : Nat) (e : TypeId) (fz : Nat × Nat) : ∀ (vs : List Value) (i : Nat) (c : Array Value) (w : World), w.heap[r]? = some (.cells c e fz) → off + i + vs.length ≤ c.size →
    (∀ v ∈ vs, v.oneCell' = true) → (∀ j, j < c.size → ¬ (fz.1 ≤ j ∧ j < fz.2)) →
    ∃ (w' : World) (c' : Array Value), (storeCells ⟨r, off, none⟩ vs i).run P w = .ok () w' ∧ w'.heap[r]? = some (.cells c' e fz) ∧ c'.toList = c.toList.take (off + i) ++ vs ++ c.toList.drop (off + i + vs.length) ∧
      (∀ b, b ≠ r → w'.heap[b]? = w.heap[b]?) ∧ w'.heap.size = w.heap.size ∧ w'.os = w.os ∧ w'.tape = w.tape ∧ w'.output = w.output
  | [], i, c, w, hc, hl, _, _ => ⟨w, c, by simp [storeCells], hc, by simp, fun _ _ => rfl, rfl, rfl, rfl, rfl⟩
  | v :: vs, i, c, w, hc, hl, h1, hf => by
    simp only [List.length_cons] at hl
    have hi : off + i < c.size := by omega
    have hcell : w.cell? ⟨r, off + i, none⟩ = some c[off + i] := by simp [World.cell?, hc, hi]
    have hfr : w.frozen? ⟨r, off + i, none⟩ = false := by
      have := hf (off + i) hi
      obtain ⟨lo, hi'⟩ := fz
      simp [World.frozen?, hc]
      intro h2
      have := fun h3 => this ⟨h2, h3⟩
      simp at this; omega
    have hset : (w.setCell ⟨r, off + i, none⟩ v).heap[r]? = some (.cells (c.setIfInBounds (off + i) v) e fz) := by
      simp [World.setCell, Array.getElem?_modify, hc]
    obtain ⟨w', c', hrun, hheap, hlist, hother, hsize, hos, htape, hout⟩ := run_storeCells_own r off e fz vs (i + 1) (c.setIfInBounds (off + i) v) _ hset (by simp; omega) (fun u hu => h1 u (List.mem_cons_of_mem _ hu)) (by simpa using hf)
    refine ⟨w', c', ?_, hheap, ?_, fun b hb => ?_, by rw [hsize]; simp, hos, htape, hout⟩
    · simp only [storeCells, Sem.run_bind, add_lit, run_store P w _ v _ (h1 v (List.mem_cons_self ..)), hcell, hfr]
      simpa using hrun
    · rw [hlist]
      have hci : off + i < c.toList.length := by simpa using hi
      rw [Array.toList_setIfInBounds, List.length_cons, ← Nat.add_assoc]
      have e1 : (c.toList.set (off + i) v).take (off + i + 1) = c.toList.take (off + i) ++ [v] := by
        rw [List.take_set, List.take_succ_eq_append_getElem hci, List.set_append_right _ _ (by simp; omega)]
        have e0 : off + i - min (off + i) c.size = 0 := by omega
        simp [e0]
      have e2 : (c.toList.set (off + i) v).drop (off + i + 1 + vs.length) = c.toList.drop (off + i + (vs.length + 1)) := by
        rw [List.drop_set, if_pos (by omega)]
        congr 1; omega
      rw [e1, e2]
      simp
    · rw [hother b hb]
      exact Go.RowKit.Below.heap_setCell _ _ _ _ hb

theorem relL_one {H : DHeap} : ∀ {ds : List DVal} {xs : List Value}, RelL w H ds xs → ds.all (·.one) = true → ∀ x ∈ xs, x.oneCell' = true
  | [], _, h, _, x, hx => by simp only [RelL] at h; subst h; simp at hx
  | d :: ds, xs, h, h1, x, hx => by
    simp only [RelL] at h
    obtain ⟨y, ys, rfl, hr, hl⟩ := h
    simp only [List.all_cons, Bool.and_eq_true] at h1
    rcases List.mem_cons.1 hx with rfl | hx
    · cases d <;> simp only [Rel, DVal.one] at hr h1 <;> try (simp at h1; done)
      case raw v => obtain ⟨rfl, _⟩ := hr; exact h1.1
      case vptr => obtain ⟨_, _, _, rfl, _⟩ := hr; rfl
      case vslice => obtain ⟨_, _, rfl, _⟩ := hr; rfl
      case oslice => obtain ⟨_, _, rfl, _⟩ := hr; rfl
      case func => obtain ⟨_, _, rfl, _⟩ := hr; rfl
      case iface => obtain ⟨_, rfl, _⟩ := hr; rfl
      all_goals (subst hr; rfl)
    · exact relL_one hl h1.2 x hx

/-- A part of a block of the call's own, stored into. -/
theorem store_own {H : DHeap} (hH : SimHeap w H) {r off : Nat} {cs ds : List DVal} {e : TypeId} (hr : H r = some (.cells cs e)) {vs : List Value} (hv : RelL w H ds vs) (h1 : ds.all (·.one) = true) (hle : off + ds.length ≤ cs.length) :
    ∃ w', (storeCells ⟨r, off, none⟩ vs 0).run P w = .ok () w' ∧ SimHeap w' (upd H r (some (.cells (splice cs off ds) e))) ∧ Ext H w (upd H r (some (.cells (splice cs off ds) e))) w' := by
  obtain ⟨xs, c, fz, g1, g2, g3, g4⟩ := hH r _ hr
  obtain ⟨tl, htl⟩ := g2
  have hlx := g3.length
  have hlv := hv.length
  have hcs : c.size = xs.length + tl.length := by rw [← Array.length_toList, ← htl]; simp
  obtain ⟨w', c', hrun, hheap, hlist, hother, hsize, hos, htape, hout⟩ := run_storeCells_own (P := P) r off e fz vs 0 c w g1 (by omega) (relL_one hv h1) g4
  have hE : Ext H w (upd H r (some (.cells (splice cs off ds) e))) w' := by
    have hcsz : c'.size = c.size := by
      rw [← Array.length_toList, hlist]; simp; omega
    refine ⟨hos, htape, hout, by omega, fun b hb hn => hother b (fun hbr => by subst hbr; rw [hr] at hn; cases hn), fun b hb => ?_, fun b hb => ?_, fun a _ _ => by
      unfold World.frozen?
      by_cases hbr : a.block = r
      · rw [hbr, hheap, g1]
      · rw [hother _ hbr]⟩
    rotate_left
    · by_cases hbr : b = r
      · subst hbr; rw [hheap, g1]; simp [csize, hcsz]
      · rw [hother b hbr]
    by_cases hbr : b = r
    · subst hbr; exact .inl (by rw [hr]; simp)
    · simp only [upd, if_neg hbr] at hb; exact .inl hb
  refine ⟨w', hrun, fun r' o' ho' => ?_, hE⟩
  by_cases hbr : r' = r
  · subst hbr
    simp only [upd, if_pos] at ho'
    cases ho'
    refine ⟨xs.take off ++ vs ++ xs.drop (off + vs.length), c', fz, hheap, ?_, ?_, ?_⟩
    · refine ⟨tl, ?_⟩
      rw [hlist, ← htl, Nat.add_zero, List.take_append_of_le_length (by omega), List.drop_append_of_le_length (by omega)]
      simp
    · have e0 : splice cs off ds = cs.take off ++ ds ++ cs.drop (off + vs.length) := by unfold splice; rw [hlv]
      have e1 := ((RelL.lasts hE.lasts _ _ (g3.take off)).append (RelL.lasts hE.lasts _ _ hv)).append (RelL.lasts hE.lasts _ _ (g3.drop (off + vs.length)))
      rw [← e0] at e1
      exact e1
    · have : c'.size = c.size := by
        rw [← Array.length_toList, hlist]; simp; omega
      rw [this]; exact g4
  · simp only [upd, if_neg hbr] at ho'
    rw [hother r' hbr]
    exact (hH r' o' ho').lasts hE.lasts

theorem s_store (hS : Sim G N s a w) {t : TypeId} {x y : Operand} (hx : opdOk N x = true) (hy : opdOk N y = true) (he : o.op = .store t x y)
    (h : (P.info? t).isSome = true ∧ dStore (P.cellsOf t) o.dst (dev G s.env x) (dev G s.env y) K s) : o.wp P a w (NextS G N K s w) Qx := by
  obtain ⟨hi, h⟩ := h
  have r := rel_dev hS hx
  have ry := rel_dev hS hy
  cases hv : dev G s.env x <;> rw [hv] at h r <;> (try (cases hdst : o.dst <;> rw [hdst] at h <;> exact h.elim))
  rename_i r0 off
  cases hdst : o.dst with
  | some d => rw [hdst] at h; exact h.elim
  | none =>
    rw [hdst] at h
    simp only [Rel] at r
    simp only [dStore] at h
    cases hh : s.heap r0 with
    | none => rw [hh] at h; exact h.elim
    | some ob =>
      rw [hh] at h
      cases ob with
      | loop => exact h.elim
      | iter => exact h.elim
      | map => exact h.elim
      | cells cs e =>
        obtain ⟨hl, h1, hle, hK⟩ := h
        have rc := cells_rel ry
        obtain ⟨w', hrun, hH, hE⟩ := store_own (P := P) hS.heap hh rc h1 (off := off) (by omega)
        have hlen : (a.eval y).cells.size = P.cellsOf t := by rw [← hl, rc.length]; simp
        unfold Oper.wp
        have : (execOp a.eval o).run P w = .ok .skip w' := by
          simp [execOp, he, r, Instr.storeAt, Instr.sureAddr, storeVar, run_sizeOf hi, hlen, hrun]
        rw [this]
        show NextS G N K s w (a.put o.dst undef) w'
        rw [hdst]
        exact ⟨_, hK, hS.ext hE hH, hE⟩

end
end Go.Dl

-- THE DATA LEVEL, PART P: further operations.
namespace Go.Dl
open Go

set_option maxHeartbeats 40000
section
variable {P : Program} {G : Nat → DVal} {N : Fr}
variable {o : Oper} {s : DS} {a : Act} {w : World} {K : DK} {Qx : Exit → Act → World → Prop}

-- nilCheck
theorem s_nilCheck (hS : Sim G N s a w) (hd : dstOk N o.dst = true) {x : Operand} (hx : opdOk N x = true) (he : o.op = .nilCheck x)
    (h : dNilCheck o.dst (dev G s.env x) K s) : PV P o s a w K := by
  have r := rel_dev hS hx
  have r' := r
  cases hv : dev G s.env x <;> rw [hv] at h r r' <;> try exact h.elim
  case vptr cs off =>
    simp only [Rel] at r
    obtain ⟨b, o', xs, hp, hc, hl⟩ := r
    exact pvI hS hd (x := a.eval x) (by simp [execOp, he, hp]) r' h
  case optr r0 off =>
    simp only [Rel] at r
    exact pvI hS hd (x := a.eval x) (by simp [execOp, he, r]) r' h
  case omap r0 =>
    simp only [Rel] at r
    exact pvI hS hd (x := a.eval x) (by simp [execOp, he, r]) r' h
  case iface t0 v0 =>
    simp only [Rel] at r
    obtain ⟨x0, hp, _⟩ := r
    exact pvI hS hd (x := a.eval x) (by simp [execOp, he, hp]) r' h
  case func fn f c =>
    simp only [Rel] at r
    obtain ⟨xs, ys, hp, _, _⟩ := r
    cases fn <;> try exact h.elim
    exact pvI hS hd (x := a.eval x) (by simp [execOp, he, hp]) r' h

-- the rest of the plain ones
theorem s_makeFunc (hS : Sim G N s a w) (hd : dstOk N o.dst = true) {fn : Fn} {fs cs : Array Operand} (hf : fs.toList.all (opdOk N) = true) (hc : cs.toList.all (opdOk N) = true) (he : o.op = .makeFunc fn fs cs)
    (h : dput o.dst (.func fn (devs G s.env fs.toList) (devs G s.env cs.toList)) K s) : PV P o s a w K := by
  refine pvI hS hd (x := .func fn (fs.map a.eval) (cs.map a.eval)) (by simp [execOp, he, Instr.makeFunc]) ?_ h
  simp only [Rel]
  exact ⟨_, _, rfl, by simpa using rel_devs hS hf, by simpa using rel_devs hS hc⟩

theorem s_makeIface (hS : Sim G N s a w) (hd : dstOk N o.dst = true) {t : TypeId} {x : Operand} (hx : opdOk N x = true) (he : o.op = .makeInterface t x)
    (h : dMakeIface t (dev G s.env x) o.dst (notIface (P.underlying t)) K s) : PV P o s a w K := by
  cases hn : notIface (P.underlying t) with
  | false => rw [hn] at h; exact h.elim
  | true =>
    rw [hn] at h
    cases hu : P.underlying t with
    | none => rw [hu] at hn; simp [notIface] at hn
    | some d =>
      refine pvI hS hd (x := .iface t (a.eval x)) ?_ ?_ h
      · rw [hu] at hn
        cases d <;> simp [notIface] at hn <;> simp [execOp, he, Instr.makeInterface, run_underlying hu]
      · simp only [Rel]; exact ⟨_, rfl, rel_dev hS hx⟩

theorem s_extract (hS : Sim G N s a w) (hd : dstOk N o.dst = true) {x : Operand} {i : Nat} (hx : opdOk N x = true) (he : o.op = .extract x i)
    (h : dExtract i o.dst (dev G s.env x) K s) : PV P o s a w K := by
  have r := rel_dev hS hx
  cases hv : dev G s.env x <;> rw [hv] at h r <;> try exact h.elim
  simp only [Rel] at r
  obtain ⟨xs, hp, hl⟩ := r
  obtain ⟨d, hd', hK⟩ := dputO_some h
  obtain ⟨y, hy, hrel⟩ := hl.get hd'
  refine pvI hS hd ?_ hrel hK
  have : xs[i]? = some y := by simpa using hy
  simp [execOp, he, hp, Instr.extract, this]

theorem s_unOp (hS : Sim G N s a w) (hd : dstOk N o.dst = true) {op : UnOp} {t : TypeId} {x : Operand} (hx : opdOk N x = true) (he : o.op = .unOp op t x)
    (h : dUn o.dst op (dev G s.env x) K s) : PV P o s a w K := by
  have r := rel_dev hS hx
  cases hv : dev G s.env x <;> rw [hv] at h r <;> cases op <;> (try exact h.elim) <;> simp only [Rel] at r <;> simp only [dUn] at h
  · exact pvI hS hd (by simp [execOp, he, r, Op.unary]; rfl) (by simp [Rel]) h
  · exact pvI hS hd (by simp [execOp, he, r, Op.unary, Op.intArith]; rfl) (by simp [Rel]) h
  · exact pvI hS hd (by simp [execOp, he, r, Op.unary, Op.intBits]; rfl) (by simp [Rel]) h

theorem s_convert (hS : Sim G N s a w) (hd : dstOk N o.dst = true) {src t : TypeId} {x : Operand} (hx : opdOk N x = true) (he : o.op = .convert src t x)
    (h : dConvert o.dst (P.underlying src) (P.underlying t) (dev G s.env x) K s) : PV P o s a w K := by
  have r := rel_dev hS hx
  cases hs : P.underlying src with
  | none => rw [hs] at h; cases P.underlying t <;> exact h.elim
  | some ds =>
    cases ht : P.underlying t with
    | none => rw [hs, ht] at h; exact h.elim
    | some dt =>
      rw [hs, ht] at h
      cases dt <;> (try exact h.elim)
      case int k =>
        cases hv : dev G s.env x <;> rw [hv] at h r <;> (try exact h.elim)
        simp only [Rel] at r
        rename_i k0 n0
        refine pvI hS hd (x := .int k (k.wrap n0)) ?_ ?_ h
        · simp [execOp, he, r, convert, run_underlying hs, run_underlying ht, Conv.intToInt]
        · simp [Rel]
      case string =>
        cases hv : dev G s.env x <;> rw [hv] at h r <;> (try exact h.elim)
        simp only [Rel] at r
        refine pvI hS hd (x := a.eval x) ?_ ?_ h
        · simp [execOp, he, r, convert, run_underlying hs, run_underlying ht]
        · rw [r]; simp [Rel]


-- arithmetic
theorem op_int {k : IntKind} {n : Int} (hS : Sim G N s a w) (hd : dstOk N o.dst = true) (hrun : (execOp a.eval o).run P w = .ok (.value (.int k n)) w) (hK : dput o.dst (.int k n) K s) : o.wp P a w (NextS G N K s w) Qx :=
  op_value hS hd hrun (by simp [Rel]) hK
theorem op_bool {b : Bool} (hS : Sim G N s a w) (hd : dstOk N o.dst = true) (hrun : (execOp a.eval o).run P w = .ok (.value (.bool b)) w) (hK : dput o.dst (.bool b) K s) : o.wp P a w (NextS G N K s w) Qx :=
  op_value hS hd hrun (by simp [Rel]) hK
theorem eqGuard_dval {op : BinOp} {t : TypeId} {x y : Operand} {u v : Value} (h : ∀ t' z, u = .agg t' → v = .agg z → False) (h2 : u = .nilIface → v = .nilIface → False) : eqGuard op t x y u v = pure () := by
  unfold eqGuard
  cases op <;> (try rfl) <;> (cases u <;> (try rfl) <;> cases v <;> (try rfl)) <;> first | exact (h2 rfl rfl).elim | exact (h _ _ rfl rfl).elim

theorem s_binInt (hS : Sim G N s a w) (hd : dstOk N o.dst = true) {op : BinOp} {t t' : TypeId} {x y : Operand} (he : o.op = .binOp op t x y t') {k k' : IntKind} {m n : Int} (hx : a.eval x = .int k m) (hy : a.eval y = .int k' n)
    (h : dBinI op k k' m n o.dst K s (isShift op)) : PV P o s a w K := by
  have hg : eqGuard op t x y (.int k m) (.int k' n) = pure () := eqGuard_dval (by simp) (by simp)
  cases op <;> simp only [isShift, dBinI, dIntBin, dShift] at h
  case shl =>
    obtain ⟨h0, hK⟩ := h
    refine pvI hS hd (x := .int k (k.wrap (m * 2 ^ (min n.toNat k.bits)))) ?_ (by simp [Rel]) hK
    simp only [execOp, he, hx, hy, hg, binOp, Op.shift, if_neg (Int.not_lt.2 h0)]
    rfl
  case shr =>
    obtain ⟨h0, hK⟩ := h
    refine pvI hS hd (x := .int k (m.fdiv (2 ^ (min n.toNat k.bits)))) ?_ (by simp [Rel]) hK
    simp only [execOp, he, hx, hy, hg, binOp, Op.shift, if_neg (Int.not_lt.2 h0)]
    rfl
  case quo =>
    obtain ⟨rfl, h0, hK⟩ := h
    refine pvI hS hd (x := .int k (k.wrap (m.tdiv n))) ?_ (by simp [Rel]) hK
    simp [execOp, he, hx, hy, hg, binOp, Op.intDiv, h0]
  case rem =>
    obtain ⟨rfl, h0, hK⟩ := h
    refine pvI hS hd (x := .int k (m.tmod n)) ?_ (by simp [Rel]) hK
    simp [execOp, he, hx, hy, hg, binOp, Op.intDiv, h0]
  all_goals
    obtain ⟨rfl, hK⟩ := h
    first | refine pv_int hS hd ?_ hK | refine pv_bool hS hd ?_ hK
    · simp [execOp, he, hx, hy, hg, binOp, Op.intArith, Op.intBits, Op.intCmp, bne, Int.not_le, Int.not_lt] <;> (try (rw [Bool.eq_iff_iff]; simp))

theorem toList_mk (l : List UInt8) : (ByteArray.mk ⟨l⟩).toList = l := by
  have h : ∀ (n i : Nat) (r : List UInt8), l.length - i = n → i ≤ l.length → ByteArray.toList.loop ⟨⟨l⟩⟩ i r = r.reverse ++ l.drop i := by
    intro n
    induction n with
    | zero =>
      intro i r hn hi
      have : i = l.length := by omega
      subst this
      unfold ByteArray.toList.loop
      simp [ByteArray.size]
    | succ n ih =>
      intro i r hn hi
      have hlt : i < l.length := by omega
      unfold ByteArray.toList.loop
      simp only [ByteArray.size, List.size_toArray, hlt, if_true]
      rw [ih (i + 1) _ (by omega) (by omega)]
      have : ByteArray.get! ⟨⟨l⟩⟩ i = l[i] := by simp [ByteArray.get!, hlt]
      rw [this, List.drop_eq_getElem_cons hlt]
      simp
  have := h l.length 0 [] (by simp) (by omega)
  simpa [ByteArray.toList] using this

theorem append_mk (l m : List UInt8) : (ByteArray.mk ⟨l⟩) ++ (ByteArray.mk ⟨m⟩) = ByteArray.mk ⟨l ++ m⟩ := by
  apply ByteArray.ext
  simp

theorem s_binStr (hS : Sim G N s a w) (hd : dstOk N o.dst = true) {op : BinOp} {t t' : TypeId} {x y : Operand} (he : o.op = .binOp op t x y t') {l m : List UInt8} (hx : a.eval x = .string ⟨⟨l⟩⟩) (hy : a.eval y = .string ⟨⟨m⟩⟩)
    (h : dStrBin l m o.dst K s op) : PV P o s a w K := by
  have hg : eqGuard op t x y (.string ⟨⟨l⟩⟩) (.string ⟨⟨m⟩⟩) = pure () := eqGuard_dval (by simp) (by simp)
  have hsz : ∀ l : List UInt8, (ByteArray.mk ⟨l⟩).size = l.length := fun l => rfl
  cases op <;> simp only [dStrBin] at h <;> try exact h.elim
  case add =>
    obtain ⟨h0, hK⟩ := h
    refine pvI hS hd (x := .string ⟨⟨l ++ m⟩⟩) ?_ (by simp [Rel]) hK
    simp only [execOp, he, hx, hy, hg, binOp, Op.stringOp, hsz]
    rw [if_neg (by simp [IntKind.max, IntKind.signed, IntKind.bits]; omega), append_mk]
    rfl
  all_goals
    refine pv_bool hS hd ?_ h
    · simp [execOp, he, hx, hy, hg, binOp, Op.stringOp, toList_mk] <;> (try (rw [Bool.eq_iff_iff]; simp))


theorem run_equal_of {t : TypeId} {x y : Value} {b : Bool} (h : (Op.equal t x y).run P w = .ok b w) {op : BinOp} {n : Bool} (hop : eqOp op = some n) (hx : ∀ k n, x ≠ .int k n) (hs : ∀ l, x ≠ .string l) (hf : ∀ k n, x ≠ .float k n) (hc : ∀ k n m, x ≠ .complex k n m) :
    (binOp op t x y).run P w = .ok (.bool (if n then !b else b)) w := by
  cases op <;> simp [eqOp] at hop <;> subst hop
  · have : binOp .eql t x y = (do pure (.bool (← Op.equal t x y))) := by
      cases x <;> first | rfl | exact absurd rfl (hx _ _) | exact absurd rfl (hs _) | exact absurd rfl (hf _ _) | exact absurd rfl (hc _ _ _)
    rw [this]; simp [h]
  · have : binOp .neq t x y = (do pure (.bool (!(← Op.equal t x y)))) := by
      cases x <;> first | rfl | exact absurd rfl (hx _ _) | exact absurd rfl (hs _) | exact absurd rfl (hf _ _) | exact absurd rfl (hc _ _ _)
    rw [this]; simp [h]

theorem dEqP_some {dst : Option Nat} {n b : Option Bool} (h : dEqP dst n b K s) : ∃ n' b', n = some n' ∧ b = some b' ∧ dput dst (.bool (if n' then !b' else b')) K s := by
  cases n with
  | none => exact h.elim
  | some n => cases b with
    | none => cases n <;> exact h.elim
    | some b => cases n <;> exact ⟨_, b, rfl, rfl, h⟩

theorem andO_some {x y : Option Bool} {b : Bool} (h : andO x y = some b) : ∃ p q, x = some p ∧ y = some q ∧ b = (p && q) := by
  cases x with
  | none => cases h
  | some p => cases y with
    | none => cases p <;> cases h
    | some q =>
      refine ⟨p, q, rfl, rfl, ?_⟩
      cases p <;> cases h <;> rfl

/-- Cells of plain values are those of the model's value. -/
theorem run_part_rel {H : DHeap} {t : TypeId} {ag : Bool} (hag : aggB P t = some ag) {cs : List DVal} {xs : Array Value} (hr : RelL w H cs xs.toList) {off : Nat}
    (hne : ag = false → (partCells (P.cellsOf t) off cs (some ag)) ≠ []) :
    ∃ y, (part t xs off).run P w = .ok y w ∧ RelL w H (partCells (P.cellsOf t) off cs (some ag)) (if ag then y.cells.toList else [y]) ∧ (ag = true → ∃ ys, y = .agg ys) := by
  cases ag with
  | true =>
    have hi := info_of_agg hag
    refine ⟨.agg (xs.extract off (off + P.cellsOf t)), by simp [part, run_isAgg hag, run_sizeOf hi], ?_, fun _ => ⟨_, rfl⟩⟩
    have : (xs.extract off (off + P.cellsOf t)).toList = (xs.toList.drop off).take (P.cellsOf t) := by simp [Array.toList_extract, List.extract]
    simp only [partCells, if_true, Value.cells, this]
    exact (hr.drop off).take _
  | false =>
    have hne := hne rfl
    simp only [partCells] at hne ⊢
    have hlt : off < cs.length := by
      rcases Nat.lt_or_ge off cs.length with h | h
      · exact h
      · rw [List.drop_eq_nil_of_le h] at hne; simp at hne
    have hlx := hr.length
    have hlt' : off < xs.size := by rw [← Array.length_toList, ← hlx]; exact hlt
    refine ⟨xs[off], by simp [part, run_isAgg hag, Array.getElem?_eq_getElem hlt'], ?_, fun h => by cases h⟩
    have h2 := (hr.drop off).take 1
    have : (xs.toList.drop off).take 1 = [xs[off]] := by
      rw [List.drop_eq_getElem_cons (by simpa using hlt')]
      simp
    rw [this] at h2
    simpa using h2

theorem dEqT_nonempty {n : Nat} {t : TypeId} {ys : List DVal} {b : Bool} (hag : aggB P t ≠ some true) (h : dEqT P n t [] ys = some b) : False := by
  cases n with
  | zero => cases h
  | succ n =>
    simp only [dEqT] at h
    unfold aggB at hag
    cases hu : P.underlying t with
    | none => rw [hu] at h; cases h
    | some d =>
      rw [hu] at h hag
      cases d <;> simp [dEqTu, dEqTb, dEqTi, dEqTs] at h hag

theorem dEqT_nonempty' {n : Nat} {t : TypeId} {xs : List DVal} {b : Bool} (hag : aggB P t ≠ some true) (h : dEqT P n t xs [] = some b) : False := by
  cases n with
  | zero => cases h
  | succ n =>
    simp only [dEqT] at h
    unfold aggB at hag
    cases hu : P.underlying t with
    | none => rw [hu] at h; cases h
    | some d =>
      rw [hu] at h hag
      cases d <;> simp at hag <;> simp only [dEqTu, dEqTb, dEqTi, dEqTs] at h <;> first | cases h | (split at h <;> simp_all)

/-- Equality of plain values of type t, whatever their depth. -/
theorem run_equalIn_dEqT {H : DHeap} : ∀ (n d : Nat), n ≤ d → ∀ (t : TypeId) (xs ys : List DVal) (x y : Value) (ag : Bool) (b : Bool), aggB P t = some ag →
    RelL w H xs (if ag then x.cells.toList else [x]) → RelL w H ys (if ag then y.cells.toList else [y]) → (ag = true → ∃ c, x = .agg c) → (ag = true → ∃ c, y = .agg c) → dEqT P n t xs ys = some b →
    (Op.equalIn d t x y).run P w = .ok b w
  | 0, _, _, _, _, _, _, _, _, _, _, _, _, _, _, h => by cases h
  | n + 1, 0, hnd, _, _, _, _, _, _, _, _, _, _, _, _, _ => by omega
  | n + 1, d + 1, hnd, t, xs, ys, x, y, ag, b, hag, hx, hy, gx, gy, h => by
    simp only [dEqT] at h
    cases hu : P.underlying t with
    | none => rw [hu] at h; cases h
    | some td =>
      rw [hu] at h
      have hag' := hag
      unfold aggB at hag'
      rw [hu] at hag'
      have step : ∀ (u : TypeId) (off : Nat) (r : Bool) (cx cy : Array Value), x = .agg cx → y = .agg cy → ag = true → dEqT P n u (partCells (P.cellsOf u) off xs (aggB P u)) (partCells (P.cellsOf u) off ys (aggB P u)) = some r →
          ∃ p q, (part u cx off).run P w = .ok p w ∧ (part u cy off).run P w = .ok q w ∧ (Op.equalIn d u p q).run P w = .ok r w := by
        intro u off r cx cy ex ey hagt hr
        subst ex; subst ey; subst hagt
        simp only [if_true, Value.cells] at hx hy
        cases hau : aggB P u with
        | none =>
          rw [hau] at hr
          exact (dEqT_nonempty (by rw [hau]; simp) hr).elim
        | some au =>
          rw [hau] at hr
          obtain ⟨p, hp, hrp, hgp⟩ := run_part_rel (w := w) hau hx (off := off) (fun e he => by subst e; rw [he] at hr; exact dEqT_nonempty (by rw [hau]; simp) hr)
          obtain ⟨q, hq, hrq, hgq⟩ := run_part_rel (w := w) hau hy (off := off) (fun e he => by subst e; rw [he] at hr; exact dEqT_nonempty' (by rw [hau]; simp) hr)
          exact ⟨p, q, hp, hq, run_equalIn_dEqT n d (by omega) u _ _ p q au r hau hrp hrq hgp hgq hr⟩
      cases td <;> try (cases h; done)
      case bool =>
        simp at hag'; subst hag'
        simp only [dEqTu] at h
        unfold dEqTb at h
        split at h <;> try (cases h; done)
        simp only [Bool.false_eq_true, if_false, RelL, Rel] at hx hy
        obtain ⟨_, _, hx, rfl, rfl⟩ := hx
        obtain ⟨_, _, hy, rfl, rfl⟩ := hy
        simp only [List.cons.injEq, and_true] at hx hy
        subst hx; subst hy
        cases h
        rw [run_equalIn_bool w d t _ _ hu]
        congr 1
      case int k =>
        simp at hag'; subst hag'
        simp only [dEqTu] at h
        unfold dEqTi at h
        split at h <;> try (cases h; done)
        split at h <;> try (cases h; done)
        rename_i hk
        subst hk
        simp only [Bool.false_eq_true, if_false, RelL, Rel] at hx hy
        obtain ⟨_, _, hx, rfl, rfl⟩ := hx
        obtain ⟨_, _, hy, rfl, rfl⟩ := hy
        simp only [List.cons.injEq, and_true] at hx hy
        subst hx; subst hy
        cases h
        simp only [Op.equalIn, Sem.run_bind, run_underlying hu, Result.andThen_ok, if_true, Sem.run_pure]
        congr 1
      case string =>
        simp at hag'; subst hag'
        simp only [dEqTu] at h
        unfold dEqTs at h
        split at h <;> try (cases h; done)
        simp only [Bool.false_eq_true, if_false, RelL, Rel] at hx hy
        obtain ⟨_, _, hx, rfl, rfl⟩ := hx
        obtain ⟨_, _, hy, rfl, rfl⟩ := hy
        simp only [List.cons.injEq, and_true] at hx hy
        subst hx; subst hy
        cases h
        rw [run_equalIn_string (w := w) d t _ _ hu]
        congr 1
        rw [Bool.eq_iff_iff, toList_mk, toList_mk]; simp
      case struct fs =>
        simp at hag'; subst hag'
        obtain ⟨cx, rfl⟩ := gx rfl
        obtain ⟨cy, rfl⟩ := gy rfl
        have hfs : P.fieldsOf t = fs := by simp [Program.fieldsOf, hu]
        simp only [dEqTu] at h
        cases hst : P.stoodInHeld t with
        | true => rw [hst] at h; cases h
        | false =>
          rw [hst] at h
          simp only [dEqTr] at h
          rw [run_equalIn_struct w d t cx cy (by rw [hu, hfs]) hst, hfs]
          generalize fs.toList = l at h
          clear hfs hu hst
          induction l generalizing b with
          | nil => simp only [dEqFs] at h; cases h; simp [Op.eqFields]
          | cons f l ih =>
            simp only [dEqFs] at h
            split at h <;> try (cases h; done)
            rename_i hn
            obtain ⟨p', q', h1, h2, rfl⟩ := andO_some h
            obtain ⟨p, q, r1, r2, r3⟩ := step f.type f.offset p' cx cy rfl rfl rfl h1
            have := ih q' h2
            simp only [Op.eqFields, if_pos hn, Sem.run_bind, r1, r2, r3, Result.andThen_ok]
            cases p'
            · simp
            · simpa using this
      case array m e =>
        simp at hag'; subst hag'
        obtain ⟨cx, rfl⟩ := gx rfl
        obtain ⟨cy, rfl⟩ := gy rfl
        simp only [dEqTu] at h
        cases hie : P.info? e with
        | none => rw [hie] at h; cases h
        | some ie =>
          rw [run_equalIn_array w d cx cy hu hie]
          rw [hie] at h
          simp only [Option.isSome_some, if_true] at h
          generalize List.range m = l at h
          clear hu
          induction l generalizing b with
          | nil => simp only [dEqIs] at h; cases h; simp [Op.eqItems]
          | cons f l ih =>
            simp only [dEqIs] at h
            obtain ⟨p', q', h1, h2, rfl⟩ := andO_some h
            obtain ⟨p, q, r1, r2, r3⟩ := step e (f * P.cellsOf e) p' cx cy rfl rfl rfl h1
            have := ih q' h2
            simp only [Op.eqItems, Sem.run_bind, r1, r2, r3, Result.andThen_ok]
            cases p'
            · simp
            · simpa using this


theorem eqGuard_const {op : BinOp} {t : TypeId} {x y : Operand} (h : (isConst x || isConst y) = true) : eqGuard op t x y .nilIface .nilIface = pure () := by
  unfold eqGuard
  cases x <;> cases y <;> simp [isConst] at h <;> cases op <;> rfl

theorem s_eql {b : Bool} {op : BinOp} {t : TypeId} {x y : Operand} {xv yv : Value} (hS : Sim G N s a w) (hd : dstOk N o.dst = true) {t' : TypeId} (he : o.op = .binOp op t x y t') (hx : a.eval x = xv) (hy : a.eval y = yv)
    (hg : eqGuard op t x y xv yv = pure ()) (hr : (Op.equal t xv yv).run P w = .ok b w) (h1 : ∀ k n, xv ≠ .int k n) (h2 : ∀ l, xv ≠ .string l) (h3 : ∀ k n, xv ≠ .float k n) (h4 : ∀ k n m, xv ≠ .complex k n m)
    (h : dEqP o.dst (eqOp op) (some b) K s) : PV P o s a w K := by
  obtain ⟨n, b', hn, hb, hK⟩ := dEqP_some h
  cases hb
  have := run_equal_of (P := P) hr hn h1 h2 h3 h4
  refine pv_bool hS hd (b := if n then !b else b) ?_ hK
  simp [execOp, he, hx, hy, hg, this]

set_option maxHeartbeats 400000 in
theorem s_dEql (hS : Sim G N s a w) (hd : dstOk N o.dst = true) {op : BinOp} {t t' : TypeId} {x y : Operand} (he : o.op = .binOp op t x y t') {dx dy : DVal} (rx : Rel w s.heap dx (a.eval x)) (ry : Rel w s.heap dy (a.eval y))
    (h : dEqP o.dst (eqOp op) (dEql (isConst x || isConst y) (P.underlying t) dx dy) K s) : PV P o s a w K := by
  obtain ⟨n, b, hn, hb, hK⟩ := dEqP_some h
  rw [hb] at h
  unfold dEql at hb
  have key : ∀ xv yv, a.eval x = xv → a.eval y = yv → eqGuard op t x y xv yv = pure () → (∀ d, (Op.equalIn (d + 1) t xv yv).run P w = .ok b w) → (∀ k n, xv ≠ .int k n) → (∀ l, xv ≠ .string l) → (∀ k n, xv ≠ .float k n) → (∀ k n m, xv ≠ .complex k n m) → PV P o s a w K :=
    fun xv yv e1 e2 e3 e4 e5 e6 e7 e8 => s_eql hS hd he e1 e2 e3 (e4 9999) e5 e6 e7 e8 h
  split at hb <;> (try (cases hb; done)) <;> simp only [Rel] at rx ry
  case h_1 hu => exact key _ _ rx ry (eqGuard_dval (by simp) (by simp)) (by cases hb; exact fun d => run_equalIn_bool w d t _ _ hu) (by simp) (by simp) (by simp) (by simp)
  case h_2 hu => exact key _ _ rx ry (eqGuard_dval (by simp) (by simp)) (by cases hb; intro d; simp [Op.equalIn, run_underlying hu]) (by simp) (by simp) (by simp) (by simp)
  case h_3 hu => exact key _ _ rx ry (eqGuard_dval (by simp) (by simp)) (by cases hb; intro d; simp [Op.equalIn, run_underlying hu]) (by simp) (by simp) (by simp) (by simp)
  case h_4 hu =>
    obtain ⟨_, _, _, ry, _⟩ := ry
    exact key _ _ rx ry (eqGuard_dval (by simp) (by simp)) (by cases hb; intro d; simp [Op.equalIn, run_underlying hu]) (by simp) (by simp) (by simp) (by simp)
  case h_5 hu => exact key _ _ rx ry (eqGuard_dval (by simp) (by simp)) (by cases hb; intro d; simp [Op.equalIn, run_underlying hu]) (by simp) (by simp) (by simp) (by simp)
  case h_6 hu =>
    obtain ⟨_, _, _, rx, _⟩ := rx
    exact key _ _ rx ry (eqGuard_dval (by simp) (by simp)) (by cases hb; intro d; simp [Op.equalIn, run_underlying hu]) (by simp) (by simp) (by simp) (by simp)
  case h_7 hu =>
    obtain ⟨_, ry, _⟩ := ry
    exact key _ _ rx ry (eqGuard_dval (by simp) (by simp)) (by cases hb; intro d; simp [Op.equalIn, run_underlying hu]) (by simp) (by simp) (by simp) (by simp)
  case h_8 hu =>
    obtain ⟨_, rx, _⟩ := rx
    exact key _ _ rx ry (eqGuard_dval (by simp) (by simp)) (by cases hb; intro d; simp [Op.equalIn, run_underlying hu]) (by simp) (by simp) (by simp) (by simp)
  case h_9 hu =>
    split at hb <;> (try (cases hb; done))
    rename_i hc
    exact key _ _ rx ry (eqGuard_const hc) (by cases hb; intro d; simp [Op.equalIn, run_underlying hu]) (by simp) (by simp) (by simp) (by simp)
  case h_10 hu => exact key _ _ rx ry (eqGuard_dval (by simp) (by simp)) (by cases hb; intro d; simp [Op.equalIn, run_underlying hu]) (by simp) (by simp) (by simp) (by simp)
  case h_11 hu =>
    obtain ⟨_, _, rx, _⟩ := rx
    exact key _ _ rx ry (eqGuard_dval (by simp) (by simp)) (by cases hb; intro d; simp [Op.equalIn, run_underlying hu]) (by simp) (by simp) (by simp) (by simp)
  case h_12 hu =>
    obtain ⟨_, _, ry, _⟩ := ry
    exact key _ _ rx ry (eqGuard_dval (by simp) (by simp)) (by cases hb; intro d; simp [Op.equalIn, run_underlying hu]) (by simp) (by simp) (by simp) (by simp)
  case h_13 hu => exact key _ _ rx ry (eqGuard_dval (by simp) (by simp)) (by cases hb; intro d; simp [Op.equalIn, run_underlying hu]) (by simp) (by simp) (by simp) (by simp)
  case h_14 hu =>
    obtain ⟨_, _, rx, _⟩ := rx
    exact key _ _ rx ry (eqGuard_dval (by simp) (by simp)) (by cases hb; intro d; simp [Op.equalIn, run_underlying hu]) (by simp) (by simp) (by simp) (by simp)
  case h_15 hu =>
    obtain ⟨_, _, ry, _⟩ := ry
    exact key _ _ rx ry (eqGuard_dval (by simp) (by simp)) (by cases hb; intro d; simp [Op.equalIn, run_underlying hu]) (by simp) (by simp) (by simp) (by simp)

theorem s_binOp (hS : Sim G N s a w) (hd : dstOk N o.dst = true) {op : BinOp} {t t' : TypeId} {x y : Operand} (hx : opdOk N x = true) (hy : opdOk N y = true) (he : o.op = .binOp op t x y t')
    (h : dBin P t (isConst x || isConst y) op o.dst (dev G s.env x) (dev G s.env y) K s) : PV P o s a w K := by
  have rx := rel_dev hS hx
  have ry := rel_dev hS hy
  generalize dev G s.env x = dx at h rx
  generalize dev G s.env y = dy at h ry
  unfold dBin at h
  split at h
  · simp only [Rel] at rx ry
    exact s_binInt hS hd he rx ry h
  · simp only [Rel] at rx ry
    exact s_binStr hS hd he rx ry h
  · rename_i xs ys
    obtain ⟨hag, hge, h⟩ := h
    simp only [Rel] at rx ry
    obtain ⟨vx, hxv, rlx⟩ := rx
    obtain ⟨vy, hyv, rly⟩ := ry
    obtain ⟨n, b, hn, hb, hK⟩ := dEqP_some h
    have hrun := run_equalIn_dEqT (w := w) (H := s.heap) 6 10000 (by omega) t _ _ (.agg vx) (.agg vy) true b hag (by simpa [Value.cells] using rlx) (by simpa [Value.cells] using rly) (fun _ => ⟨_, rfl⟩) (fun _ => ⟨_, rfl⟩) hb
    have hgd : (eqGuard op t x y (.agg vx) (.agg vy)).run P w = .ok () w := by
      unfold eqGuard
      cases op <;> simp [program, Sem.run, hge]
    have hrb := run_equal_of (P := P) (w := w) (t := t) (x := .agg vx) (y := .agg vy) (b := b) hrun hn (by simp) (by simp) (by simp) (by simp)
    refine pv_bool hS hd (b := if n then !b else b) ?_ hK
    simp [execOp, he, hxv, hyv, hgd, hrb]
  · exact s_dEql hS hd he rx ry h

theorem run_equalIn_nilS {t e : TypeId} (hu : P.underlying t = some (.slice e)) (d : Nat) {ad : Option Addr} {n cap : Nat} : (Op.equalIn (d + 1) t (.slice ad n cap) (.slice none 0 0)).run P w = .ok ad.isNone w := by
  cases ad <;> simp [Op.equalIn, run_underlying hu]

theorem s_binX (hS : Sim G N s a w) (hd : dstOk N o.dst = true) {op : BinOp} {t t' : TypeId} {x y : Operand} (hx : opdOk N x = true) (hy : opdOk N y = true) (he : o.op = .binOp op t x y t')
    (h : dBinX P t (isConst x || isConst y) op o.dst (isNilS y) (dev G s.env x) (dev G s.env y) K s) : PV P o s a w K := by
  cases hn : isNilS y with
  | false =>
    rw [hn, dBinX_false] at h
    exact s_binOp hS hd hx hy he h
  | true =>
    rw [hn] at h
    by_cases hv : ∃ cs n, dev G s.env x = .vslice cs n
    · obtain ⟨cs, n, hv⟩ := hv
      have rx := rel_dev hS hx
      rw [hv] at h rx
      simp only [dBinX] at h
      obtain ⟨ht, h⟩ := h
      simp only [Rel] at rx
      obtain ⟨ad, cap, hev, hle, hcs⟩ := rx
      have hyv : a.eval y = .slice none 0 0 := by
        unfold isNilS at hn
        split at hn <;> first | rfl | cases hn
      cases hu : P.underlying t with
      | none => rw [hu] at ht; cases ht
      | some d =>
        rw [hu] at ht
        cases d <;> first | (cases ht; done) | skip
        refine s_eql hS hd he hev hyv (b := ad.isNone) (eqGuard_dval (by simp) (by simp)) ?_ (by simp) (by simp) (by simp) (by simp) (h ad.isNone ?_)
        · exact run_equalIn_nilS hu 9999
        · intro hc
          rcases hcs with hcs | ⟨b, o', xs, rfl, _⟩
          · exact (hc hcs).elim
          · rfl
    · refine s_binOp hS hd hx hy he ?_
      revert h hv
      generalize dev G s.env x = dx
      intro h hv
      cases dx <;> first | exact h | exact (hv ⟨_, _, rfl⟩).elim

end
end Go.Dl

-- THE DATA LEVEL, PART Q: further operations: structs, addresses, slices.
namespace Go.Dl
open Go

section
variable {P : Program} {G : Nat → DVal} {N : Fr}
variable {o : Oper} {s : DS} {a : Act} {w : World} {K : DK} {Qx : Exit → Act → World → Prop}

theorem repl_length (n : Nat) (zs : List DVal) : (repl n zs).length = n * zs.length := by
  unfold repl
  induction n with
  | zero => simp
  | succ n ih => simp [List.replicate_succ, ih, Nat.succ_mul]; omega

theorem repl_get (n : Nat) (zs : List DVal) (i : Nat) (hi : i < n * zs.length) : (repl n zs)[i]? = zs[i % zs.length]? := by
  induction n generalizing i with
  | zero => simp at hi
  | succ n ih =>
    have hr : repl (n + 1) zs = zs ++ repl n zs := by simp [repl, List.replicate_succ]
    rw [hr]
    by_cases h : i < zs.length
    · rw [List.getElem?_append_left h, Nat.mod_eq_of_lt h]
    · have e : (n + 1) * zs.length = n * zs.length + zs.length := Nat.succ_mul _ _
      rw [List.getElem?_append_right (by omega), ih (i - zs.length) (by omega)]
      congr 1
      exact (Nat.mod_eq_sub_mod (by omega)).symm

theorem relL_repl {H : DHeap} {zs : List DVal} {vs : Array Value} (h : RelL w H zs vs.toList) (n m : Nat) (hm : m = n * zs.length) :
    RelL w H (repl n zs) ((Array.range m).map (vs[· % vs.size]!)).toList := by
  have hl := h.length
  refine RelL.mk (by simp [repl_length, hm]) fun i d x h1 h2 => ?_
  have hi : i < m := by
    rcases Nat.lt_or_ge i m with h' | h'
    · exact h'
    · rw [List.getElem?_eq_none (by rw [repl_length]; omega)] at h1; cases h1
  have hz : 0 < zs.length := by
    rcases Nat.eq_zero_or_pos zs.length with e | e
    · rw [e] at hm; simp at hm; omega
    · exact e
  rw [repl_get n zs i (by omega)] at h1
  obtain ⟨y, hy, hr⟩ := h.get h1
  have hsz : vs.size = zs.length := by rw [hl]; simp
  have : x = y := by
    have h3 : ((Array.range m).map (vs[· % vs.size]!)).toList[i]? = some (vs[i % vs.size]!) := by simp [hi]
    rw [h3] at h2
    cases h2
    have hlt : i % vs.size < vs.size := Nat.mod_lt _ (by omega)
    have : vs.toList[i % zs.length]? = some (vs[i % vs.size]!) := by
      rw [← hsz]; simp [hlt]
    rw [this] at hy; cases hy; rfl
  subst this; exact hr

-- structs and arrays out of their parts
theorem foldl_set (vs : List Value) : ∀ (j off : Nat) (c : Array Value), off + j + vs.length ≤ c.size →
    ((vs.zipIdx j).foldl (fun cs (p : Value × Nat) => cs.setIfInBounds (off + p.2) p.1) c).toList = c.toList.take (off + j) ++ vs ++ c.toList.drop (off + j + vs.length) := by
  induction vs with
  | nil => intro j off c _; simp
  | cons v vs ih =>
    intro j off c h
    simp only [List.length_cons] at h
    simp only [List.zipIdx_cons, List.foldl_cons]
    rw [ih (j + 1) off _ (by simp; omega)]
    have hci : off + j < c.toList.length := by simp; omega
    rw [Array.toList_setIfInBounds, List.length_cons, ← Nat.add_assoc]
    have e1 : (c.toList.set (off + j) v).take (off + j + 1) = c.toList.take (off + j) ++ [v] := by
      rw [List.take_set, List.take_succ_eq_append_getElem hci, List.set_append_right _ _ (by simp; omega)]
      have e0 : off + j - min (off + j) c.size = 0 := by omega
      simp [e0]
    have e2 : (c.toList.set (off + j) v).drop (off + j + 1 + vs.length) = c.toList.drop (off + j + (vs.length + 1)) := by
      rw [List.drop_set, if_pos (by omega)]
      congr 1; omega
    rw [e1, e2]
    simp

theorem fill_rel {H : DHeap} (place : Nat → Option (Nat × Nat)) : ∀ (parts : List (Nat × DVal)) (vs : List (Nat × Value)) (cs : List DVal) (c : Array Value) (out : List DVal),
    RelL w H cs c.toList → parts.length = vs.length → (∀ (j : Nat) (i : Nat) (d : DVal), parts[j]? = some (i, d) → ∃ v, vs[j]? = some (i, v) ∧ RelL w H d.cells v.cells.toList) →
    dfill place cs parts = some out → ∃ c', Instr.fill place c vs = some c' ∧ RelL w H out c'.toList
  | [], [], cs, c, out, hc, _, _, h => by
    simp only [dfill] at h; cases h
    exact ⟨c, rfl, hc⟩
  | [], _ :: _, _, _, _, _, hl, _, _ => by simp at hl
  | _ :: _, [], _, _, _, _, hl, _, _ => by simp at hl
  | (i, d) :: parts, (i', v) :: vs, cs, c, out, hc, hl, hp, h => by
    obtain ⟨v', hv', hr⟩ := hp 0 i d rfl
    simp at hv'
    obtain ⟨rfl, rfl⟩ := hv'
    simp only [dfill] at h
    cases hpl : place i' with
    | none => rw [hpl] at h; cases h
    | some os =>
      obtain ⟨off, size⟩ := os
      rw [hpl] at h
      simp only at h
      split at h
      · rename_i hle
        obtain ⟨hsz, hle⟩ := hle
        have hlr := hr.length
        have hlc := hc.length
        have hvs : v.cells.size = d.cells.length := by rw [hlr]; simp
        have hcs : cs.length = c.size := by rw [hlc]; simp
        have hf : (v.cells.zipIdx.foldl (fun cs (p : Value × Nat) => cs.setIfInBounds (off + p.2) p.1) c).toList = c.toList.take off ++ v.cells.toList ++ c.toList.drop (off + v.cells.toList.length) := by
          have := foldl_set v.cells.toList 0 off c (by simp; omega)
          rw [← Array.foldl_toList, Array.toList_zipIdx]
          simpa using this
        obtain ⟨c', h1, h2⟩ := fill_rel place parts vs (cs.take off ++ d.cells ++ cs.drop (off + d.cells.length)) (v.cells.zipIdx.foldl (fun cs (p : Value × Nat) => cs.setIfInBounds (off + p.2) p.1) c) out
          (by rw [hf, ← hlr]; exact ((hc.take off).append hr).append (hc.drop _)) (by simpa using hl) (fun j i d hj => hp (j + 1) i d (by simpa using hj)) h
        refine ⟨c', ?_, h2⟩
        simp only [Instr.fill, hpl]
        rw [if_neg (by simp only [Bool.or_eq_true, decide_eq_true_eq, not_or]; omega)]
        exact h1
      · cases h

theorem dfill_length {place : Nat → Option (Nat × Nat)} : ∀ {parts : List (Nat × DVal)} {cs out : List DVal}, dfill place cs parts = some out → out.length = cs.length
  | [], cs, out, h => by simp only [dfill] at h; cases h; rfl
  | (i, d) :: parts, cs, out, h => by
    simp only [dfill] at h
    cases hpl : place i with
    | none => rw [hpl] at h; cases h
    | some os =>
      rw [hpl] at h
      simp only at h
      split at h
      · rename_i hle
        rw [dfill_length h]
        simp; omega
      · cases h

theorem parts_rel {s : DS} (hS : Sim G N s a w) : ∀ (ps : List (Nat × Operand)), (ps.all fun p => opdOk N p.2) = true →
    (dparts G s.env ps).length = (ps.map fun p => (p.1, a.eval p.2)).length ∧
    ∀ (j i : Nat) (d : DVal), (dparts G s.env ps)[j]? = some (i, d) → ∃ v, (ps.map fun p => (p.1, a.eval p.2))[j]? = some (i, v) ∧ RelL w s.heap d.cells v.cells.toList
  | [], _ => ⟨rfl, by simp [dparts]⟩
  | (i, x) :: ps, h => by
    simp only [List.all_cons, Bool.and_eq_true] at h
    obtain ⟨h1, h2⟩ := parts_rel hS ps h.2
    refine ⟨by simpa [dparts] using h1, fun j i' d hj => ?_⟩
    cases j with
    | zero =>
      simp [dparts] at hj
      obtain ⟨rfl, rfl⟩ := hj
      exact ⟨_, rfl, cells_rel (rel_dev hS h.1)⟩
    | succ j => simpa using h2 j i' d (by simpa [dparts] using hj)

theorem zero_rel {t : TypeId} {z : DVal} (h : zeroOf P t = some z) : ∃ v, (∀ w, (zeroValue t).run P w = .ok v w) ∧ (∀ (w : World) (H : DHeap), RelL w H z.cells v.cells.toList) := by
  unfold zeroOf at h
  cases hi : P.info? t with
  | none => simp [hi] at h
  | some i =>
    cases hz : i.zero with
    | none => simp [hi, hz] at h
    | some v =>
      simp [hi, hz] at h
      subst h
      exact ⟨v, fun w => by simp [zeroValue, run_typeInfo hi, hz], fun w H => cells_rel (rel_ofVal w H v)⟩

theorem run_mapM_fields {fs : List Field} (h : fs.all (fun f => (P.info? f.type).isSome) = true) :
    (fs.mapM (fun f => (do pure (f.offset, ← sizeOf f.type) : Sem (Nat × Nat)))).run P w = .ok (fs.map fun f => (f.offset, P.cellsOf f.type)) w := by
  induction fs with
  | nil => simp
  | cons f fs ih =>
    simp only [List.all_cons, Bool.and_eq_true] at h
    simp only [List.mapM_cons, Sem.run_bind, run_sizeOf h.1, Result.andThen_ok, Sem.run_pure, ih h.2, List.map_cons]

theorem s_build (hS : Sim G N s a w) (hd : dstOk N o.dst = true) {t : TypeId} {ps : Array (Nat × Operand)} (hp : (ps.toList.all fun p => opdOk N p.2) = true) (he : o.op = .build t ps)
    (h : dBuild P o.dst (buildOk P t) (P.underlying t) (zeroOf P t) (dparts G s.env ps.toList) K s) : o.wp P a w (NextS G N K s w) Qx := by
  obtain ⟨hl, hpr⟩ := parts_rel hS ps.toList hp
  cases hb : buildOk P t with
  | false => rw [hb] at h; exact h.elim
  | true =>
    rw [hb] at h
    cases hz : zeroOf P t with
    | none => rw [hz] at h; cases hu : P.underlying t with
      | none => rw [hu] at h; exact h.elim
      | some td => rw [hu] at h; cases td <;> exact h.elim
    | some z =>
      obtain ⟨v, hv, hvr⟩ := zero_rel hz
      rw [hz] at h
      have hmap : (ps.map fun p => (p.1, a.eval p.2)).toList = ps.toList.map fun p => (p.1, a.eval p.2) := by simp
      cases hu : P.underlying t with
      | none => rw [hu] at h; exact h.elim
      | some td =>
        rw [hu] at h
        unfold buildOk at hb
        rw [hu] at hb
        cases td <;> try exact h.elim
        case struct fs =>
          obtain ⟨d, hd', hK⟩ := dputO_some h
          simp only [Option.map_eq_some_iff] at hd'
          obtain ⟨out, hout, rfl⟩ := hd'
          obtain ⟨c', h1, h2⟩ := fill_rel _ _ _ _ _ _ (hvr w s.heap) hl hpr hout
          refine op_value hS hd (x := .agg c') ?_ (by simp only [Rel]; exact ⟨c', rfl, h2⟩) hK
          have hm : (fs.mapM (fun f => (do pure (f.offset, ← sizeOf f.type) : Sem (Nat × Nat)))).run P w = .ok (fs.map fun f => (f.offset, P.cellsOf f.type)) w := by
            rw [Array.mapM_eq_mapM_toList]
            simp only [Sem.run_map, run_mapM_fields (w := w) hb, Result.andThen_ok]
            congr 1
            apply Array.ext'
            simp
          have hplace : (fun i => (fs.map fun f => (f.offset, P.cellsOf f.type))[i]?) = placeS P fs := by
            funext i; simp [placeS]
          simp only [execOp, he, Instr.build, Sem.run_bind, hv, run_underlying hu, Result.andThen_ok, hm, hplace, hmap, h1]
          simp
        case array n e =>
          obtain ⟨d, hd', hK⟩ := dputO_some h
          simp only [Option.map_eq_some_iff] at hd'
          obtain ⟨out, hout, rfl⟩ := hd'
          obtain ⟨c', h1, h2⟩ := fill_rel _ _ _ _ _ _ (hvr w s.heap) hl hpr hout
          refine op_value hS hd (x := .agg c') ?_ (by simp only [Rel]; exact ⟨c', rfl, h2⟩) hK
          have hplace : (fun i => some (i * P.cellsOf e, P.cellsOf e)) = placeA (P.cellsOf e) := rfl
          simp only [execOp, he, Instr.build, Sem.run_bind, hv, run_underlying hu, Result.andThen_ok, run_sizeOf hb, hplace, hmap, h1]
          simp

theorem s_buildSlice (hS : Sim G N s a w) (hd : dstOk N o.dst = true) {t : TypeId} {n : Nat} {ps : Array (Nat × Operand)} (hp : (ps.toList.all fun p => opdOk N p.2) = true) (he : o.op = .buildSlice t n ps)
    (h : dBuildSlice P n o.dst (P.underlying t) (dparts G s.env ps.toList) K s) : o.wp P a w (NextS G N K s w) Qx := by
  obtain ⟨hl, hpr⟩ := parts_rel hS ps.toList hp
  have hmap : (ps.map fun p => (p.1, a.eval p.2)).toList = ps.toList.map fun p => (p.1, a.eval p.2) := by simp
  cases hu : P.underlying t with
  | none => rw [hu] at h; exact h.elim
  | some td =>
    rw [hu] at h
    cases td <;> try exact h.elim
    rename_i e
    simp only [dBuildSlice] at h
    cases hz : zeroOf P e with
    | none => rw [hz] at h; exact h.elim
    | some z =>
      obtain ⟨v, hv, hvr⟩ := zero_rel hz
      rw [hz] at h
      obtain ⟨hle, hzl, h⟩ := h
      cases hf : dfill (placeA (P.cellsOf e)) (repl n z.cells) (dparts G s.env ps.toList) with
      | none => rw [hf] at h; exact h.elim
      | some out =>
        rw [hf] at h
        have hie : (P.info? e).isSome = true := by
          unfold zeroOf at hz
          cases hi : P.info? e with
          | none => simp [hi] at hz
          | some i => rfl
        have hb := relL_repl (hvr w s.heap) n (n * P.cellsOf e) (by rw [hzl])
        have hvs : v.cells.size = P.cellsOf e := by rw [← hzl, (hvr w s.heap).length]; simp
        have hplace : (fun i => some (i * P.cellsOf e, P.cellsOf e)) = placeA (P.cellsOf e) := rfl
        by_cases h0 : n * P.cellsOf e = 0
        · have hb0 : RelL w s.heap (repl n z.cells) ((Array.range (n * P.cellsOf e)).map ((#[] : Array Value)[· % (#[] : Array Value).size]!)).toList := by
            rw [h0] at hb ⊢; simpa using hb
          obtain ⟨c', h1, h2⟩ := fill_rel _ _ _ _ _ _ hb0 hl hpr hf
          refine op_newS hS hd (c := c') (n := w.drawn) (Nat.le_refl n) (Nat.le_refl n) (by rw [← Array.length_toList, ← h2.length, dfill_length hf, repl_length, hzl]; omega) ?_ h2 (List.prefix_refl _) h
          simp only [execOp, he, Instr.buildSlice, Sem.run_bind, run_underlying hu, Result.andThen_ok, run_sizeOf hie]
          rw [if_neg (by simp; omega)]
          simp only [h0] at h1
          simp only [hplace, hmap, h0, if_true, Sem.run_bind, Sem.run_pure, Result.andThen_ok, h1]
          simp [newRow]
          rfl
        · obtain ⟨c', h1, h2⟩ := fill_rel _ _ _ _ _ _ hb hl hpr hf
          refine op_newS hS hd (c := c') (n := w.drawn) (Nat.le_refl n) (Nat.le_refl n) (by rw [← Array.length_toList, ← h2.length, dfill_length hf, repl_length, hzl]; omega) ?_ h2 (List.prefix_refl _) h
          simp only [execOp, he, Instr.buildSlice, Sem.run_bind, run_underlying hu, Result.andThen_ok, run_sizeOf hie]
          rw [if_neg (by simp; omega)]
          simp only [hplace, hmap, h0, if_false]
          simp [hv, h1, newRow]
          rfl

end
end Go.Dl
