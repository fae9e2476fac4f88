/-
  THE DATA LEVEL, PART A: values that carry the memory they point to (a string, a slice that nobody writes any more, a pointer into one), states, and what it means that a state of this level describes a state of the model..
-/
import Derived.WalkKit
import Derived.OwnWalk
import Derived.RangeFuncNested
import Derived.RangeFuncCalls
import Derived.TacticsIn
import Derived.OrdersIn
set_option linter.unusedSimpArgs false
set_option linter.unusedVariables false
namespace Go.Dl
open Go

/-- A value of the data level: 'vptr', 'vslice' carry the cells behind them (memory that is never written again); 'optr', 'oslice', 'omap' name a block of the call's own. -/
inductive DVal where
  | raw (v : Value)
  | bool (b : Bool)
  | int (k : IntKind) (n : Int)
  | str (s : List UInt8)
  | nilPtr
  | vptr (cs : List DVal) (off : Nat)
  | optr (r off : Nat)
  | nilSlice
  | vslice (cs : List DVal) (len : Nat)
  | oslice (sz r off len lo : Nat)
  | nilMap
  | omap (r : Nat)
  | func (fn : Fn) (first captured : List DVal)
  | nilFunc
  | iface (t : TypeId) (v : DVal)
  | nilIface
  | agg (cs : List DVal)
  | tuple (vs : List DVal)
  deriving Inhabited

def DVal.cells : DVal → List DVal
  | .agg cs => cs
  | v => [v]

/-- Is it the value of one cell? -/
def DVal.one : DVal → Bool
  | .agg _ | .tuple _ => false
  | .raw v => v.oneCell'
  | _ => true

inductive DObj where
  | cells (cs : List DVal) (e : TypeId)
  /-- The record of a loop over an iterator: the slots as they were where it began (the record's own 'tmps' are not looked at). -/
  | loop (env : Nat → DVal) (n : Nat) (r : Loop)
  /-- A map: its entries, in the order in which they were laid. -/
  | map (es : List (DVal × DVal))

abbrev DHeap := Nat → Option DObj

def upd {α : Type} (f : Nat → α) (i : Nat) (v : α) : Nat → α := fun j => if j = i then v else f j

/-- A state: the frame's slots, the blocks of the call's own. -/
structure DS where
  env : Nat → DVal
  heap : DHeap

inductive DExit where
  | normal
  | exit (id : Nat)
  | goto (l : Nat)
  | ret
  | panic (v : DVal)

inductive DEnd where
  | ret (v : DVal)
  | panic (v : DVal)

/-- These cells lie one behind the other in a block that is none of the call's own. -/
def CellsAt (w : World) (H : DHeap) (b off : Nat) (xs : List Value) : Prop :=
  xs = [] ∨ (H b = none ∧ ∀ i x, xs[i]? = some x → w.cell? ⟨b, off + i, none⟩ = some x)

/-- How many cells a block has. -/
def csize : Option Obj → Option Nat
  | some (.cells c _ _) => some c.size
  | _ => none

/-- Block r is there, and has at least n cells (if it is a row of cells). -/
def Room (w : World) (r n : Nat) : Prop := r < w.heap.size ∧ ∀ k, csize w.heap[r]? = some k → n ≤ k

mutual
/-- The value of the data level describes the model's value. -/
def Rel (w : World) (H : DHeap) : DVal → Value → Prop
  | .raw x, v => v = x ∧ x.oneCell' = true
  | .bool b, v => v = .bool b
  | .int k n, v => v = .int k n
  | .str s, v => v = .string ⟨⟨s⟩⟩
  | .nilPtr, v => v = .pointer none
  | .vptr cs off, v => ∃ b o xs, v = .pointer (some ⟨b, o + off, none⟩) ∧ CellsAt w H b o xs ∧ RelL w H cs xs
  | .optr r off, v => v = .pointer (some ⟨r, off, none⟩)
  | .nilSlice, v => v = .slice none 0 0
  | .vslice cs len, v => ∃ a cap, v = .slice a len cap ∧ len ≤ cap ∧ (cs = [] ∨ ∃ b o xs, a = some ⟨b, o, none⟩ ∧ CellsAt w H b o xs ∧ RelL w H cs xs)
  | .oslice sz r off len lo, v => ∃ o cap, v = .slice (some ⟨r, o, none⟩) len cap ∧ lo ≤ cap ∧ len ≤ cap ∧ (cap = 0 ∨ o = off) ∧ Room w r (o + cap * sz)
  | .nilMap, v => v = .map none
  | .omap r, v => v = .map (some r)
  | .func fn first captured, v => ∃ xs ys, v = .func fn xs ys ∧ RelL w H first xs.toList ∧ RelL w H captured ys.toList
  | .nilFunc, v => v = .nilFunc
  | .iface t d, v => ∃ x, v = .iface t x ∧ Rel w H d x
  | .nilIface, v => v = .nilIface
  | .agg cs, v => ∃ xs, v = .agg xs ∧ RelL w H cs xs.toList
  | .tuple cs, v => ∃ xs, v = .tuple xs ∧ RelL w H cs xs.toList
def RelL (w : World) (H : DHeap) : List DVal → List Value → Prop
  | [], xs => xs = []
  | d :: ds, xs => ∃ y ys, xs = y :: ys ∧ Rel w H d y ∧ RelL w H ds ys
end

/-- The entries of a map. -/
def RelM (w : World) (H : DHeap) : List (DVal × DVal) → List MapEntry → Prop
  | [], ms => ms = []
  | p :: es, ms => ∃ m ms', ms = m :: ms' ∧ Rel w H p.1 m.key ∧ Rel w H p.2 m.val ∧ RelM w H es ms'

/-- A block of the call's own: its first cells are known; what lies behind them is spare room; none is frozen. -/
def RelObj (w : World) (H : DHeap) : DObj → Option Obj → Prop
  | .cells cs e, o => ∃ xs c fz, o = some (.cells c e fz) ∧ xs <+: c.toList ∧ RelL w H cs xs ∧ ∀ i, i < c.size → ¬ (fz.1 ≤ i ∧ i < fz.2)
  | .loop env n r, o => ∃ tmps, o = some (.loop { r with tmps := tmps }) ∧ tmps.size = n ∧ ∀ i, i < n → Rel w H (env i) (tmps.getD i undef)
  | .map es, o => ∃ ms clock, o = some (.map ms clock) ∧ RelM w H es ms.toList

def SimHeap (w : World) (H : DHeap) : Prop := ∀ r o, H r = some o → RelObj w H o w.heap[r]?

/-- From one world to the next: nothing but the call's own blocks has turned. -/
structure Ext (H : DHeap) (w : World) (H' : DHeap) (w' : World) : Prop where
  os : w'.os = w.os
  tape : w'.tape = w.tape
  output : w'.output = w.output
  size : w.heap.size ≤ w'.heap.size
  block : ∀ b, b < w.heap.size → H b = none → w'.heap[b]? = w.heap[b]?
  own : ∀ b, H' b ≠ none → H b ≠ none ∨ w.heap.size ≤ b
  keep : ∀ b, b < w.heap.size → csize w'.heap[b]? = csize w.heap[b]?
  fz : ∀ a, w'.frozen? a = w.frozen? a

/-- What the package's own tables hold ('G g': a pointer to variable g, with its cells). -/
def GOk (G : Nat → DVal) (w : World) (H : DHeap) : Prop := ∀ g, Rel w H (G g) (.pointer (some ⟨g, 0, none⟩))

/-- A frame: how many slots, and how many blocks there were when its call began. -/
structure Fr where
  n : Nat
  base : Nat
instance : Coe Fr Nat := ⟨Fr.n⟩

/-- What loops over iterators leave to the call's end. -/
def Dfs (w : World) (H : DHeap) (B : Nat) (ds : List Deferred) : Prop :=
  ∃ Ds : List Nat, ds = Ds.map (fun D => ({ target := .collected D, args := #[] } : Deferred)) ∧ Ds.Nodup ∧ ∀ D ∈ Ds, B ≤ D ∧ w.heap[D]? = some (.deferred (some [])) ∧ H D = none

theorem Dfs.nil (w : World) (H : DHeap) (B : Nat) : Dfs w H B [] := ⟨[], rfl, List.nodup_nil, by simp⟩

structure Sim (G : Nat → DVal) (N : Fr) (s : DS) (a : Act) (w : World) : Prop where
  size : a.tmps.size = N.n
  defers : Dfs w s.heap N.base a.defers
  tmps : ∀ i, i < N.n → Rel w s.heap (s.env i) (a.tmps.getD i undef)
  heap : SimHeap w s.heap
  glob : GOk G w s.heap
  base : N.base ≤ w.heap.size

inductive RelX (w : World) (H : DHeap) : DExit → Exit → Prop
  | normal : RelX w H .normal .normal
  | exit (id : Nat) : RelX w H (.exit id) (.exit id)
  | goto (l : Nat) : RelX w H (.goto l) (.goto l)
  | ret : RelX w H .ret .ret
  | panic (d : DVal) (v : Value) : Rel w H d v → RelX w H (.panic d) (.panic [{ v, recovered := false }])

inductive RelE (w : World) (H : DHeap) : DEnd → Ending → Prop
  | ret (d : DVal) (v : Value) : Rel w H d v → RelE w H (.ret d) (.returned v)
  | panic (d : DVal) (v : Value) : Rel w H d v → RelE w H (.panic d) (.panicked [{ v, recovered := false }])

/-- A CALL AT THE DATA LEVEL. -/
def DCalls (P : Program) (G : Nat → DVal) (f : FuncId) (args : List DVal) (H : DHeap) (R : DEnd → DHeap → Prop) : Prop :=
  (∀ vs w, (callFunc f vs).run P w = .ok (.enter f vs) w) ∧
  ∀ (vs : List Value) (w : World), RelL w H args vs → SimHeap w H → GOk G w H →
    Calls P f vs.toArray w fun e w' => ∃ e' H', R e' H' ∧ RelE w' H' e' e ∧ SimHeap w' H' ∧ Ext H w H' w'

/-- A fence that lets everything by. -/
def FOk (F : Fence) : Prop := F = Fence.wide ∨ ∃ l, F = Fence.wide.inRound l

/-- A ROUND AT THE DATA LEVEL: what a call of yield does. -/
def DYields (P : Program) (G : Nat → DVal) (l : Nat) (args : List DVal) (H : DHeap) (R : DEnd → DHeap → Prop) : Prop :=
  ∀ (F : Fence) (n : Nat), FOk F → ∀ (vs : List Value) (w : World), RelL w H args vs → SimHeap w H → GOk G w H →
    YieldAt F n P l vs.toArray w fun e w' => ∃ e' H', R e' H' ∧ RelE w' H' e' e ∧ SimHeap w' H' ∧ Ext H w H' w'

section
variable {P : Program} {F : Fence} {n : Nat}

theorem FOk.fn (h : FOk F) (g : FuncId) : F.fn g := by
  rcases h with rfl | ⟨l, rfl⟩ <;> trivial
theorem FOk.depth (h : FOk F) : F.depth = none := by
  rcases h with rfl | ⟨l, rfl⟩ <;> rfl
theorem FOk.calls (h : FOk F) {f : FuncId} {args : Array Value} {w : World} {R : Ending → World → Prop} (hc : Calls P f args w R) : CallsIn F n P f args w R := by
  rcases h with rfl | ⟨l, rfl⟩
  · exact callsIn_wide.2 hc
  · exact CallsIn.inRound l (callsIn_wide.2 hc)
theorem FOk.rows (h : FOk F) {row : String} {args : Array Value} {w : World} {R : Value → World → Prop} (hc : Rows P row args w R) : RowsIn F n P row args w R := by
  have h0 : RowsIn Fence.wide n P row args w R := fun c cs _ => by
    obtain ⟨v, w', hr, hs⟩ := hc c cs
    exact ⟨v, w', hr, stepsIn_wide.2 hs⟩
  rcases h with rfl | ⟨l, rfl⟩
  · exact h0
  · exact h0

theorem FOk.oper (h : FOk F) {o : Oper} {a : Act} {w : World} {K : Act → World → Prop} {Q : Exit → Act → World → Prop} (hd : ∀ c, o.op ≠ .defer c) (hw : o.wp P a w K Q) : o.wpIn F n P a w K Q := by
  refine ⟨fun f _ => h.fn f, ?_⟩
  rw [Oper.semAt_eq _ _ _ hd]
  unfold Oper.wp at hw
  have hdep : F.depth.isSome = true → 1 ≤ n := by rw [h.depth]; intro hh; cases hh
  generalize (execOp a.eval o).run P w = r at hw ⊢
  cases r with
  | ok x w' =>
    cases x <;> simp only [Oper.upon, Oper.uponIn] at hw ⊢ <;> first
      | exact hw
      | exact ⟨hdep, h.calls (hw.mono fun e w'' he => by cases e <;> exact he)⟩
      | exact ⟨hdep, h.rows hw⟩
      | exact hw.elim
  | halt x w' => cases x <;> simp only [Oper.upon, Oper.uponIn] at hw ⊢ <;> first | exact hw | exact hw.elim

end

/-- A PIECE OF CODE AT THE DATA LEVEL. -/
def DWp (P : Program) (G : Nat → DVal) (N : Nat) (c : Code) (Q : DExit → DS → Prop) (s : DS) : Prop :=
  ∀ (F : Fence) (n B : Nat), FOk F → ∀ (a : Act) (w : World), Sim G ⟨N, B⟩ s a w →
    c.wpIn F n P (fun e a' w' => ∃ e' s', Q e' s' ∧ RelX w' s'.heap e' e ∧ Sim G ⟨N, B⟩ s' a' w' ∧ Ext s.heap w s'.heap w') a w

/-- The same, outside of any round. -/
def DWp0 (P : Program) (G : Nat → DVal) (N : Nat) (c : Code) (Q : DExit → DS → Prop) (s : DS) : Prop :=
  ∀ (n B : Nat) (a : Act) (w : World), Sim G ⟨N, B⟩ s a w →
    c.wpIn Fence.wide n P (fun e a' w' => ∃ e' s', Q e' s' ∧ RelX w' s'.heap e' e ∧ Sim G ⟨N, B⟩ s' a' w' ∧ Ext s.heap w s'.heap w') a w

/-- A step of thought: the same worlds, seen with less in it. -/
def Ghost (H : DHeap) (v : DVal) (H' : DHeap) (v' : DVal) : Prop :=
  ∀ w, SimHeap w H → SimHeap w H' ∧ ∀ x, Rel w H v x → Rel w H' v' x

-- what lasts -------------------------------------------------------------------------------------------------------------------

/-- What 'Rel' asks of the step from one world to the next: blocks that are none of the call's own stay as they are, and stay none of its own; blocks keep their size. -/
structure Lasts (H : DHeap) (w : World) (H' : DHeap) (w' : World) : Prop where
  cell : ∀ b i x, H b = none → w.cell? ⟨b, i, none⟩ = some x → H' b = none ∧ w'.cell? ⟨b, i, none⟩ = some x
  size : w.heap.size ≤ w'.heap.size
  keep : ∀ b, b < w.heap.size → csize w'.heap[b]? = csize w.heap[b]?

theorem Lasts.room {H H' : DHeap} {w w' : World} (h : Lasts H w H' w') {r n : Nat} (hr : Room w r n) : Room w' r n :=
  ⟨Nat.lt_of_lt_of_le hr.1 h.size, fun k hk => hr.2 k (by rw [← h.keep r hr.1]; exact hk)⟩

theorem cell_lt {w : World} {b i : Nat} {x : Value} (h : w.cell? ⟨b, i, none⟩ = some x) : b < w.heap.size := by
  unfold World.cell? at h
  rcases Nat.lt_or_ge b w.heap.size with hl | hl
  · exact hl
  · simp [Array.getElem?_eq_none hl] at h

theorem Ext.lasts {H H' : DHeap} {w w' : World} (h : Ext H w H' w') : Lasts H w H' w' := by
  refine ⟨fun b i x hb hc => ?_, h.size, h.keep⟩
  have hl := cell_lt hc
  constructor
  · cases e : H' b with
    | none => rfl
    | some o =>
      rcases h.own b (by simp [e]) with h1 | h1
      · exact (h1 hb).elim
      · omega
  · unfold World.cell? at hc ⊢
    rw [h.block b hl hb]; exact hc

theorem Dfs.ext {H H' : DHeap} {w w' : World} {B : Nat} {ds : List Deferred} (h : Ext H w H' w') (hd : Dfs w H B ds) : Dfs w' H' B ds := by
  obtain ⟨Ds, h1, h2, h3⟩ := hd
  refine ⟨Ds, h1, h2, fun D hD => ?_⟩
  obtain ⟨g1, g2, g3⟩ := h3 D hD
  have hl : D < w.heap.size := (Array.getElem?_eq_some_iff.1 g2).1
  refine ⟨g1, by rw [h.block D hl g3]; exact g2, ?_⟩
  cases e : H' D with
  | none => rfl
  | some o =>
    rcases h.own D (by simp [e]) with k | k
    · exact (k g3).elim
    · omega
theorem Dfs.less {H H' : DHeap} {w : World} {B : Nat} {ds : List Deferred} (hd : Dfs w H B ds) (h : ∀ b, H' b ≠ none → H b ≠ none) : Dfs w H' B ds := by
  obtain ⟨Ds, h1, h2, h3⟩ := hd
  refine ⟨Ds, h1, h2, fun D hD => ⟨(h3 D hD).1, (h3 D hD).2.1, ?_⟩⟩
  cases e : H' D with
  | none => rfl
  | some o => exact absurd (h3 D hD).2.2 (h D (by simp [e]))

theorem CellsAt.lasts {H H' : DHeap} {w w' : World} (h : Lasts H w H' w') {b o : Nat} {xs : List Value} (hc : CellsAt w H b o xs) : CellsAt w' H' b o xs := by
  rcases hc with rfl | ⟨h1, h2⟩
  · exact .inl rfl
  · cases xs with
    | nil => exact .inl rfl
    | cons x xs =>
      refine .inr ⟨(h.cell b (o + 0) x h1 (h2 0 x rfl)).1, fun i y hy => (h.cell b (o + i) y h1 (h2 i y hy)).2⟩

mutual
theorem Rel.lasts {H H' : DHeap} {w w' : World} (h : Lasts H w H' w') : ∀ (d : DVal) (v : Value), Rel w H d v → Rel w' H' d v
  | .raw _, _, hr => by simpa [Rel] using hr
  | .bool _, _, hr => by simpa [Rel] using hr
  | .int _ _, _, hr => by simpa [Rel] using hr
  | .str _, _, hr => by simpa [Rel] using hr
  | .nilPtr, _, hr => by simpa [Rel] using hr
  | .vptr cs off, v, hr => by
    simp only [Rel] at hr ⊢
    obtain ⟨b, o, xs, rfl, hc, hl⟩ := hr
    exact ⟨b, o, xs, rfl, hc.lasts h, RelL.lasts h cs xs hl⟩
  | .optr _ _, _, hr => by simpa [Rel] using hr
  | .nilSlice, _, hr => by simpa [Rel] using hr
  | .vslice cs len, v, hr => by
    simp only [Rel] at hr ⊢
    obtain ⟨a, cap, rfl, hle, hc⟩ := hr
    refine ⟨a, cap, rfl, hle, ?_⟩
    rcases hc with hc | ⟨b, o, xs, rfl, hc, hl⟩
    · exact .inl hc
    · exact .inr ⟨b, o, xs, rfl, hc.lasts h, RelL.lasts h cs xs hl⟩
  | .oslice sz r off len lo, v, hr => by
    simp only [Rel] at hr ⊢
    obtain ⟨o, cap, e, h1, h2, h3, h4⟩ := hr
    exact ⟨o, cap, e, h1, h2, h3, h.room h4⟩
  | .nilMap, _, hr => by simpa [Rel] using hr
  | .omap _, _, hr => by simpa [Rel] using hr
  | .func fn first captured, v, hr => by
    simp only [Rel] at hr ⊢
    obtain ⟨xs, ys, rfl, h1, h2⟩ := hr
    exact ⟨xs, ys, rfl, RelL.lasts h first _ h1, RelL.lasts h captured _ h2⟩
  | .nilFunc, _, hr => by simpa [Rel] using hr
  | .iface t d, v, hr => by
    simp only [Rel] at hr ⊢
    obtain ⟨x, rfl, h1⟩ := hr
    exact ⟨x, rfl, Rel.lasts h d x h1⟩
  | .nilIface, _, hr => by simpa [Rel] using hr
  | .agg cs, v, hr => by
    simp only [Rel] at hr ⊢
    obtain ⟨xs, rfl, h1⟩ := hr
    exact ⟨xs, rfl, RelL.lasts h cs _ h1⟩
  | .tuple cs, v, hr => by
    simp only [Rel] at hr ⊢
    obtain ⟨xs, rfl, h1⟩ := hr
    exact ⟨xs, rfl, RelL.lasts h cs _ h1⟩
theorem RelL.lasts {H H' : DHeap} {w w' : World} (h : Lasts H w H' w') : ∀ (ds : List DVal) (xs : List Value), RelL w H ds xs → RelL w' H' ds xs
  | [], _, hr => by simpa [RelL] using hr
  | d :: ds, xs, hr => by
    simp only [RelL] at hr ⊢
    obtain ⟨y, ys, rfl, h1, h2⟩ := hr
    exact ⟨y, ys, rfl, Rel.lasts h d y h1, RelL.lasts h ds ys h2⟩
end

theorem RelM.lasts {H H' : DHeap} {w w' : World} (h : Lasts H w H' w') : ∀ {es : List (DVal × DVal)} {ms : List MapEntry}, RelM w H es ms → RelM w' H' es ms
  | [], _, hr => hr
  | p :: es, ms, hr => by
    obtain ⟨m, ms', rfl, h1, h2, h3⟩ := hr
    exact ⟨m, ms', rfl, Rel.lasts h _ _ h1, Rel.lasts h _ _ h2, RelM.lasts h h3⟩

theorem RelObj.lasts {H H' : DHeap} {w w' : World} (h : Lasts H w H' w') {o : DObj} {x : Option Obj} (hr : RelObj w H o x) : RelObj w' H' o x := by
  cases o with
  | cells cs e =>
    obtain ⟨xs, c, fz, h1, h2, h3, h4⟩ := hr
    exact ⟨xs, c, fz, h1, h2, RelL.lasts h _ _ h3, h4⟩
  | loop env n r =>
    obtain ⟨tmps, h1, h2, h3⟩ := hr
    exact ⟨tmps, h1, h2, fun i hi => Rel.lasts h _ _ (h3 i hi)⟩
  | map es =>
    obtain ⟨ms, c, h1, h2⟩ := hr
    exact ⟨ms, c, h1, h2.lasts h⟩

theorem RelObj.some {H : DHeap} {w : World} {o : DObj} {x : Option Obj} (hr : RelObj w H o x) : ∃ y, x = Option.some y := by
  cases o with
  | cells cs e =>
    obtain ⟨xs, c, fz, h1, h2, h3, h4⟩ := hr
    exact ⟨_, h1⟩
  | loop env n r =>
    obtain ⟨tmps, h1, h2, h3⟩ := hr
    exact ⟨_, h1⟩
  | map es =>
    obtain ⟨ms, c, h1, h2⟩ := hr
    exact ⟨_, h1⟩

theorem Ext.refl (H : DHeap) (w : World) : Ext H w H w := ⟨rfl, rfl, rfl, Nat.le_refl _, fun _ _ _ => rfl, fun _ h => .inl h, fun _ _ => rfl, fun _ => rfl⟩

theorem Ext.trans {H H' H'' : DHeap} {w w' w'' : World} (h : Ext H w H' w') (k : Ext H' w' H'' w'') : Ext H w H'' w'' := by
  refine ⟨k.os.trans h.os, k.tape.trans h.tape, k.output.trans h.output, Nat.le_trans h.size k.size, fun b hb hn => ?_, fun b hb => ?_, fun b hb => by rw [k.keep b (Nat.lt_of_lt_of_le hb h.size), h.keep b hb], fun a => by rw [k.fz, h.fz]⟩
  · have hn' : H' b = none := by
      cases e : H' b with
      | none => rfl
      | some o =>
        rcases h.own b (by simp [e]) with h1 | h1
        · exact (h1 hn).elim
        · omega
    rw [k.block b (Nat.lt_of_lt_of_le hb h.size) hn', h.block b hb hn]
  · rcases k.own b hb with h1 | h1
    · exact h.own b h1
    · exact .inr (Nat.le_trans h.size h1)

theorem RelL.length {w : World} {H : DHeap} : ∀ {ds : List DVal} {xs : List Value}, RelL w H ds xs → ds.length = xs.length
  | [], _, h => by simp only [RelL] at h; subst h; rfl
  | d :: ds, xs, h => by
    simp only [RelL] at h
    obtain ⟨y, ys, rfl, _, h2⟩ := h
    simp [RelL.length h2]

theorem RelL.get {w : World} {H : DHeap} : ∀ {ds : List DVal} {xs : List Value}, RelL w H ds xs → ∀ {i : Nat} {d : DVal}, ds[i]? = some d → ∃ x, xs[i]? = some x ∧ Rel w H d x
  | [], _, _, i, d, hd => by simp at hd
  | d :: ds, xs, h, i, e, hd => by
    simp only [RelL] at h
    obtain ⟨y, ys, rfl, h1, h2⟩ := h
    cases i with
    | zero => simp at hd; subst hd; exact ⟨y, rfl, h1⟩
    | succ i => simp at hd; obtain ⟨x, hx, hr⟩ := RelL.get h2 hd; exact ⟨x, by simpa using hx, hr⟩

theorem RelL.mk {w : World} {H : DHeap} : ∀ {ds : List DVal} {xs : List Value}, ds.length = xs.length → (∀ (i : Nat) (d : DVal) (x : Value), ds[i]? = some d → xs[i]? = some x → Rel w H d x) → RelL w H ds xs
  | [], [], _, _ => by simp [RelL]
  | [], _ :: _, h, _ => by simp at h
  | _ :: _, [], h, _ => by simp at h
  | d :: ds, x :: xs, hl, h => by
    simp only [RelL]
    refine ⟨x, xs, rfl, h 0 d x rfl rfl, RelL.mk (by simpa using hl) fun i d' x' h1 h2 => h (i + 1) d' x' (by simpa using h1) (by simpa using h2)⟩

theorem RelL.append {w : World} {H : DHeap} : ∀ {ds es : List DVal} {xs ys : List Value}, RelL w H ds xs → RelL w H es ys → RelL w H (ds ++ es) (xs ++ ys)
  | [], _, _, _, h, k => by simp only [RelL] at h; subst h; simpa using k
  | d :: ds, es, xs, ys, h, k => by
    simp only [RelL] at h
    obtain ⟨y, ys', rfl, h1, h2⟩ := h
    simp only [List.cons_append, RelL]
    exact ⟨y, _, rfl, h1, RelL.append h2 k⟩

theorem RelL.take {w : World} {H : DHeap} {ds : List DVal} {xs : List Value} (h : RelL w H ds xs) (n : Nat) : RelL w H (ds.take n) (xs.take n) := by
  have hl := h.length
  refine RelL.mk (by simp [hl]) fun i d x h1 h2 => ?_
  simp only [List.getElem?_take] at h1 h2
  split at h1
  · rename_i hi
    simp only [hi, if_true] at h2
    obtain ⟨y, hy, hr⟩ := h.get h1
    rw [h2] at hy; cases hy; exact hr
  · simp at h1

theorem RelL.drop {w : World} {H : DHeap} {ds : List DVal} {xs : List Value} (h : RelL w H ds xs) (n : Nat) : RelL w H (ds.drop n) (xs.drop n) := by
  have hl := h.length
  refine RelL.mk (by simp [hl]) fun i d x h1 h2 => ?_
  simp only [List.getElem?_drop] at h1 h2
  obtain ⟨y, hy, hr⟩ := h.get h1
  rw [h2] at hy; cases hy; exact hr

theorem RelL.set {w : World} {H : DHeap} {ds : List DVal} {xs : List Value} (h : RelL w H ds xs) {d : DVal} {x : Value} (hd : Rel w H d x) (n : Nat) : RelL w H (ds.set n d) (xs.set n x) := by
  have hl := h.length
  refine RelL.mk (by simp [hl]) fun i e y h1 h2 => ?_
  simp only [List.getElem?_set] at h1 h2
  split at h1
  · rename_i hi; subst hi
    simp only [if_true] at h2
    split at h1
    · rename_i hn
      rw [if_pos (by omega)] at h2
      cases h1; cases h2; exact hd
    · cases h1
  · rename_i hi
    rw [if_neg hi] at h2
    obtain ⟨z, hz, hr⟩ := h.get h1
    rw [h2] at hz; cases hz; exact hr

theorem Rel.cells {w : World} {H : DHeap} {d : DVal} {v : Value} (h : Rel w H d v) : RelL w H d.cells v.cells.toList := by
  cases d <;> simp only [Rel, DVal.cells, RelL] at h ⊢
  case raw x => obtain ⟨rfl, h⟩ := h; cases v <;> simp_all [Value.cells, Value.oneCell']
  case agg cs => obtain ⟨xs, rfl, hl⟩ := h; simpa [Value.cells] using hl
  case func => obtain ⟨xs, ys, rfl, h1, h2⟩ := h; exact ⟨_, _, rfl, ⟨xs, ys, rfl, h1, h2⟩, rfl⟩
  case vptr => obtain ⟨b, o, xs, rfl, h1, h2⟩ := h; exact ⟨_, _, rfl, ⟨b, o, xs, rfl, h1, h2⟩, rfl⟩
  case vslice => obtain ⟨a, cap, rfl, h1, h2⟩ := h; exact ⟨_, _, rfl, ⟨a, cap, rfl, h1, h2⟩, rfl⟩
  case oslice => obtain ⟨o, cap, rfl, h1⟩ := h; exact ⟨_, _, rfl, ⟨o, cap, rfl, h1⟩, rfl⟩
  case iface => obtain ⟨x, rfl, h1⟩ := h; exact ⟨_, _, rfl, ⟨x, rfl, h1⟩, rfl⟩
  case tuple => obtain ⟨xs, rfl, h1⟩ := h; exact ⟨_, _, rfl, ⟨xs, rfl, h1⟩, rfl⟩
  all_goals (subst h; exact ⟨_, _, rfl, rfl, rfl⟩)

end Go.Dl
