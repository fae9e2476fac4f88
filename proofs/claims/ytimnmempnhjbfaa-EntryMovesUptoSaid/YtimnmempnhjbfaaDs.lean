/-
  THE DATA LEVEL, PART S: what the data level says of an operation is true of the model's operation: the world, memory.
-/
import Derived.Test.YtimnmempnhjbfaaDb
set_option linter.unusedSimpArgs false
set_option linter.unusedVariables false
namespace Go.Dl
open Go

section
variable {P : Program} {G : Nat → DVal} {N : Fr}

mutual
theorem rel_ofVal (w : World) (H : DHeap) : ∀ v : Value, Rel w H (ofVal v) v
  | .bool b => by simp [ofVal, Rel]
  | .int k n => by simp [ofVal, Rel]
  | .string ⟨⟨l⟩⟩ => by simp [ofVal, Rel]
  | .pointer none => by simp [ofVal, Rel]
  | .pointer (some a) => by simp [ofVal, Rel, Value.oneCell']
  | .slice a n c => by
    by_cases h : a = none ∧ n = 0 ∧ c = 0
    · obtain ⟨rfl, rfl, rfl⟩ := h; simp [ofVal, Rel]
    · have : ofVal (.slice a n c) = .raw (.slice a n c) := by
        cases a with
        | none => cases n with
          | zero => cases c with
            | zero => simp at h
            | succ c => rfl
          | succ n => rfl
        | some a => rfl
      rw [this]; simp [Rel, Value.oneCell']
  | .map none => by simp [ofVal, Rel]
  | .map (some r) => by simp [ofVal, Rel, Value.oneCell']
  | .chan r => by simp [ofVal, Rel, Value.oneCell']
  | .float k b => by simp [ofVal, Rel, Value.oneCell']
  | .complex k a b => by simp [ofVal, Rel, Value.oneCell']
  | .nilFunc => by simp [ofVal, Rel]
  | .nilIface => by simp [ofVal, Rel]
  | .iface t v => by simp [ofVal, Rel, Value.oneCell']
  | .func fn ⟨a⟩ ⟨c⟩ => by
    simp only [ofVal, Rel]
    exact ⟨_, _, rfl, rel_ofVals w H a, rel_ofVals w H c⟩
  | .agg ⟨l⟩ => by
    simp only [ofVal, Rel]
    exact ⟨_, rfl, rel_ofVals w H l⟩
  | .tuple ⟨l⟩ => by
    simp only [ofVal, Rel]
    exact ⟨_, rfl, rel_ofVals w H l⟩
theorem rel_ofVals (w : World) (H : DHeap) : ∀ vs : List Value, RelL w H (ofVals vs) vs
  | [] => by simp [ofVals, RelL]
  | v :: vs => by
    simp only [ofVals, RelL]
    exact ⟨v, vs, rfl, rel_ofVal w H v, rel_ofVals w H vs⟩
end

theorem rel_dundef (w : World) (H : DHeap) : Rel w H dundef undef := by
  simp only [dundef, undef, Rel]
  exact ⟨#[], rfl, by simp [RelL]⟩

theorem rel_dev {s : DS} {a : Act} {w : World} (hS : Sim G N s a w) {x : Operand} (hx : opdOk N x = true) : Rel w s.heap (dev G s.env x) (a.eval x) := by
  cases x with
  | tmp t => exact hS.tmps t (by simpa [opdOk] using hx)
  | const v => exact rel_ofVal w s.heap v
  | global g => exact hS.glob g
  | func f =>
    simp only [dev, Act.eval, Rel]
    exact ⟨#[], #[], rfl, by simp [RelL], by simp [RelL]⟩

theorem rel_devs {s : DS} {a : Act} {w : World} (hS : Sim G N s a w) : ∀ {xs : List Operand}, xs.all (opdOk N) = true → RelL w s.heap (devs G s.env xs) (xs.map a.eval)
  | [], _ => by simp [devs, RelL]
  | x :: xs, h => by
    simp only [List.all_cons, Bool.and_eq_true] at h
    simp only [devs, RelL, List.map_cons]
    exact ⟨_, _, rfl, rel_dev hS h.1, rel_devs hS h.2⟩

/-- The slot that is written lies in the frame. -/
def dstOk (N : Nat) : Option Nat → Bool
  | some d => decide (d < N)
  | none => true

theorem GOk.lasts {H H' : DHeap} {w w' : World} (h : Lasts H w H' w') (hg : GOk G w H) : GOk G w' H' := fun g => Rel.lasts h _ _ (hg g)

theorem Sim.ext {s : DS} {a : Act} {w w' : World} {H' : DHeap} (hS : Sim G N s a w) (hE : Ext s.heap w H' w') (hH : SimHeap w' H') : Sim G N ⟨s.env, H'⟩ a w' :=
  ⟨hS.size, hS.defers.ext hE, fun i hi => Rel.lasts hE.lasts _ _ (hS.tmps i hi), hH, hS.glob.lasts hE.lasts, Nat.le_trans hS.base hE.size⟩

theorem Sim.put {s : DS} {a : Act} {w : World} (hS : Sim G N s a w) {dst : Option Nat} (hd : dstOk N dst = true) {v : DVal} {x : Value} (hv : Rel w s.heap v x) :
    Sim G N ⟨updO s.env dst v, s.heap⟩ (a.put dst x) w := by
  cases dst with
  | none => exact hS
  | some d =>
    have hd' : d < N := by simpa [dstOk] using hd
    refine ⟨by simpa [Act.put] using hS.size, by simpa [Act.put] using hS.defers, fun i hi => ?_, hS.heap, hS.glob, hS.base⟩
    have hsz := hS.size
    simp only [Act.put, updO, upd]
    by_cases e : i = d
    · subst e
      have : (a.tmps.setIfInBounds i x).getD i undef = x := by simp [Array.getD, hsz, hi]
      rw [this, if_pos rfl]; exact hv
    · have h1 : (a.tmps.setIfInBounds d x).getD i undef = a.tmps.getD i undef := by
        simp [Array.getD, hsz, hi, Array.getElem_setIfInBounds, Ne.symm e]
      rw [h1, if_neg e]; exact hS.tmps i hi

def NextS (G : Nat → DVal) (N : Fr) (K : DK) (s : DS) (w : World) : Act → World → Prop :=
  fun a' w' => ∃ s', K s' ∧ Sim G N s' a' w' ∧ Ext s.heap w s'.heap w'
def ExitS (G : Nat → DVal) (N : Fr) (Q : DExit → DS → Prop) (s : DS) (w : World) : Exit → Act → World → Prop :=
  fun e a' w' => ∃ e' s', Q e' s' ∧ RelX w' s'.heap e' e ∧ Sim G N s' a' w' ∧ Ext s.heap w s'.heap w'

variable {o : Oper} {s : DS} {a : Act} {w : World} {K : DK} {Qx : Exit → Act → World → Prop}

theorem op_world {w' : World} {H' : DHeap} {v : DVal} {x : Value} (hS : Sim G N s a w) (hd : dstOk N o.dst = true) (hrun : (execOp a.eval o).run P w = .ok (.value x) w')
    (hE : Ext s.heap w H' w') (hH : SimHeap w' H') (hv : Rel w' H' v x) (hK : K ⟨updO s.env o.dst v, H'⟩) : o.wp P a w (NextS G N K s w) Qx := by
  unfold Oper.wp
  rw [hrun]
  exact ⟨_, hK, (hS.ext hE hH).put hd hv, hE⟩

theorem op_value {v : DVal} {x : Value} (hS : Sim G N s a w) (hd : dstOk N o.dst = true) (hrun : (execOp a.eval o).run P w = .ok (.value x) w)
    (hv : Rel w s.heap v x) (hK : dput o.dst v K s) : o.wp P a w (NextS G N K s w) Qx :=
  op_world hS hd hrun (Ext.refl _ _) hS.heap hv hK

/-- An operation that only yields a value. -/
def PV (P : Program) (o : Oper) (s : DS) (a : Act) (w : World) (K : DK) : Prop :=
  ∃ d x, (execOp a.eval o).run P w = .ok (.value x) w ∧ Rel w s.heap d x ∧ dput o.dst d K s

theorem pvI {v : DVal} {x : Value} (_hS : Sim G N s a w) (_hd : dstOk N o.dst = true) (hrun : (execOp a.eval o).run P w = .ok (.value x) w)
    (hv : Rel w s.heap v x) (hK : dput o.dst v K s) : PV P o s a w K := ⟨v, x, hrun, hv, hK⟩

theorem PV.wp (h : PV P o s a w K) (hS : Sim G N s a w) (hd : dstOk N o.dst = true) : o.wp P a w (NextS G N K s w) Qx := by
  obtain ⟨d, x, h1, h2, h3⟩ := h
  exact op_value hS hd h1 h2 h3

theorem pv_int {k : IntKind} {n : Int} (hS : Sim G N s a w) (hd : dstOk N o.dst = true) (hrun : (execOp a.eval o).run P w = .ok (.value (.int k n)) w) (hK : dput o.dst (.int k n) K s) : PV P o s a w K :=
  pvI hS hd hrun (by simp [Rel]) hK
theorem pv_bool {b : Bool} (hS : Sim G N s a w) (hd : dstOk N o.dst = true) (hrun : (execOp a.eval o).run P w = .ok (.value (.bool b)) w) (hK : dput o.dst (.bool b) K s) : PV P o s a w K :=
  pvI hS hd hrun (by simp [Rel]) hK

theorem Ext.drawn {H : DHeap} {w w' : World} {H' : DHeap} (h : Ext H w H' w') (n : Nat) : Ext H w H' { w' with drawn := n } := ⟨h.os, h.tape, h.output, h.size, h.block, h.own, h.keep, fun a => h.fz a⟩

theorem lasts_drawn (H : DHeap) (w : World) (n : Nat) : Lasts H w H { w with drawn := n } := ⟨fun b i x hb hc => ⟨hb, hc⟩, Nat.le_refl _, fun _ _ => rfl⟩

theorem Rel.drawn {w : World} {H : DHeap} (n : Nat) (d : DVal) (v : Value) (h : Rel w H d v) : Rel { w with drawn := n } H d v :=
  Rel.lasts (lasts_drawn H w n) d v h
theorem RelL.drawn {w : World} {H : DHeap} (n : Nat) (d : List DVal) (v : List Value) (h : RelL w H d v) : RelL { w with drawn := n } H d v :=
  RelL.lasts (lasts_drawn H w n) d v h
theorem SimHeap.drawn {w : World} {H : DHeap} (n : Nat) (h : SimHeap w H) : SimHeap { w with drawn := n } H := by
  intro r o ho
  exact (h r o ho).lasts (lasts_drawn H w n)

-- a new block
theorem SimHeap.lt {H : DHeap} (hH : SimHeap w H) {r : Nat} (h : H r ≠ none) : r < w.heap.size := by
  cases e : H r with
  | none => exact (h e).elim
  | some o =>
    obtain ⟨y, h1⟩ := (hH r o e).some
    rcases Nat.lt_or_ge r w.heap.size with hl | hl
    · exact hl
    · rw [Array.getElem?_eq_none hl] at h1; cases h1

theorem SimHeap.fresh {H : DHeap} (hH : SimHeap w H) : H w.heap.size = none := by
  cases e : H w.heap.size with
  | none => rfl
  | some o => exact absurd (hH.lt (r := w.heap.size) (by simp [e])) (by omega)

theorem ext_alloc {H : DHeap} (hH : SimHeap w H) (c : Array Value) (e : TypeId) (o' : Option DObj) : Ext H w (upd H w.heap.size o') (w.alloc (.cells c e)) := by
  have hbl : ∀ b, b < w.heap.size → (w.alloc (.cells c e)).heap[b]? = w.heap[b]? := fun b hb => by
    show (w.heap.push (.cells c e))[b]? = _
    rw [Array.getElem?_push, if_neg (by omega)]
  refine ⟨rfl, rfl, rfl, by simp, fun b hb _ => hbl b hb, fun b hb => ?_, fun b hb => by rw [hbl b hb], fun a => ?_⟩
  · by_cases eb : b = w.heap.size
    · exact .inr (by omega)
    · simp only [upd, if_neg eb] at hb; exact .inl hb
  · exact Go.RowKit.frozen?_alloc_cells w c e a

theorem RelL.ofList {H : DHeap} {cs : List DVal} {xs : List Value} (h : RelL w H cs xs) {H' : DHeap} {w' : World} (hl : Lasts H w H' w') : RelL w' H' cs xs := RelL.lasts hl _ _ h

theorem simHeap_alloc {H : DHeap} (hH : SimHeap w H) {cs : List DVal} {xs : List Value} (hc : RelL w H cs xs) (c : Array Value) (hx : xs <+: c.toList) (e : TypeId) :
    SimHeap (w.alloc (.cells c e)) (upd H w.heap.size (some (.cells cs e))) := by
  have hE := ext_alloc hH c e (some (.cells cs e))
  intro r o ho
  by_cases hr : r = w.heap.size
  · subst hr
    simp only [upd, if_pos] at ho
    cases ho
    refine ⟨xs, c, (0, 0), ?_, hx, RelL.lasts hE.lasts _ _ hc, fun i _ => by simp⟩
    show (w.heap.push _)[w.heap.size]? = _
    simp
  · simp only [upd, if_neg hr] at ho
    have hlt : r < w.heap.size := hH.lt (by simp [ho])
    have hb : (w.alloc (.cells c e)).heap[r]? = w.heap[r]? := by
      show (w.heap.push _)[r]? = _
      rw [Array.getElem?_push, if_neg (by omega)]
    rw [hb]
    exact (hH r o ho).lasts hE.lasts

theorem op_newP (hS : Sim G N s a w) (hd : dstOk N o.dst = true) {cs : List DVal} {c : Array Value} {e : TypeId}
    (hrun : (execOp a.eval o).run P w = .ok (.value (.pointer (some ⟨w.heap.size, 0, none⟩))) (w.alloc (.cells c e)))
    (hc : RelL w s.heap cs c.toList) (hK : DNewP cs e o.dst K s) : o.wp P a w (NextS G N K s w) Qx :=
  op_world hS hd hrun (ext_alloc hS.heap _ _ _) (simHeap_alloc hS.heap hc c (List.prefix_refl _) e) (by simp [Rel]) (hK _ hS.heap.fresh)

theorem op_newS (hS : Sim G N s a w) (hd : dstOk N o.dst = true) {cs : List DVal} {xs : List Value} {c : Array Value} {e : TypeId} {sz len lo cap n : Nat} (hlo : lo ≤ cap) (hlen : len ≤ cap) (hroom : cap * sz ≤ c.size)
    (hrun : (execOp a.eval o).run P w = .ok (.value (.slice (some ⟨w.heap.size, 0, none⟩) len cap)) { w.alloc (.cells c e) with drawn := n })
    (hc : RelL w s.heap cs xs) (hx : xs <+: c.toList) (hK : DNewS cs e sz len lo o.dst K s) : o.wp P a w (NextS G N K s w) Qx := by
  refine op_world hS hd hrun ((ext_alloc hS.heap _ _ _).drawn n) ((simHeap_alloc hS.heap hc c hx e).drawn n) ?_ (hK _ hS.heap.fresh)
  simp only [Rel]
  refine ⟨0, cap, rfl, hlo, hlen, .inr rfl, ?_⟩
  constructor
  · show w.heap.size < (w.alloc _).heap.size
    simp
  · intro k hk
    have : (w.alloc (.cells c e)).heap[w.heap.size]? = some (.cells c e) := by
      show (w.heap.push _)[w.heap.size]? = _
      simp
    have hk' : csize (w.alloc (.cells c e)).heap[w.heap.size]? = some k := hk
    rw [this] at hk'
    simp [csize] at hk'
    omega

-- reading cells
theorem add_lit (b off n : Nat) : Addr.add ⟨b, off, none⟩ n = ⟨b, off + n, none⟩ := by
  unfold Addr.add; split <;> simp_all

/-- The cells from an address on. -/
def Holds (w : World) (b off : Nat) (xs : List Value) : Prop := ∀ i x, xs[i]? = some x → w.cell? ⟨b, off + i, none⟩ = some x

theorem CellsAt.holds {H : DHeap} {b off : Nat} {xs : List Value} (h : CellsAt w H b off xs) : Holds w b off xs := by
  rcases h with rfl | ⟨_, h⟩
  · intro i x hx; simp at hx
  · exact h

theorem Holds.drop {b off n : Nat} {xs : List Value} (h : Holds w b off xs) : Holds w b (off + n) (xs.drop n) := by
  intro i x hx
  rw [List.getElem?_drop] at hx
  have := h _ _ hx
  rwa [← Nat.add_assoc] at this

theorem Holds.take {b off n : Nat} {xs : List Value} (h : Holds w b off xs) : Holds w b off (xs.take n) := by
  intro i x hx
  rw [List.getElem?_take] at hx
  split at hx
  · exact h _ _ hx
  · cases hx

theorem run_loadCells_holds {b off : Nat} {xs : List Value} (h : Holds w b off xs) : (loadCells ⟨b, off, none⟩ xs.length).run P w = .ok xs.toArray w :=
  run_loadCells_list w ⟨b, off, none⟩ xs fun j v hv => by rw [add_lit]; exact h j v hv

/-- The cells of a block of the call's own. -/
theorem SimHeap.holds {H : DHeap} (hH : SimHeap w H) {r : Nat} {cs : List DVal} {e : TypeId} (hr : H r = some (.cells cs e)) : ∃ xs, RelL w H cs xs ∧ Holds w r 0 xs := by
  obtain ⟨xs, c, fz, h1, h2, h3, _⟩ := hH r _ hr
  refine ⟨xs, h3, fun i x hx => ?_⟩
  have hp : c.toList[i]? = some x := by
    obtain ⟨t, ht⟩ := h2
    rw [← ht, List.getElem?_append_left]
    · exact hx
    · rcases Nat.lt_or_ge i xs.length with hl | hl
      · exact hl
      · rw [List.getElem?_eq_none hl] at hx; cases hx
  simp only [World.cell?, h1, Nat.zero_add, Option.isSome_none, Bool.false_eq_true, if_false]
  simpa using hp

theorem run_isAgg {t : TypeId} {b : Bool} (h : aggB P t = some b) : (isAgg t).run P w = .ok b w := by
  unfold aggB at h
  cases hu : P.underlying t with
  | none => simp [hu] at h
  | some d =>
    simp only [isAgg, Sem.run_bind, run_underlying hu, Result.andThen_ok]
    rw [hu] at h
    cases d <;> simp at h <;> subst h <;> rfl

theorem info_of_underlying {t : TypeId} {d : TypeDesc} (h : P.underlying t = some d) : (P.info? t).isSome = true := by
  unfold Program.underlying at h
  cases hi : P.info? t with
  | none => simp [hi] at h
  | some i => rfl

theorem info_of_agg {t : TypeId} {b : Bool} (h : aggB P t = some b) : (P.info? t).isSome = true := by
  unfold aggB at h
  cases hu : P.underlying t with
  | none => simp [hu] at h
  | some d => exact info_of_underlying hu

theorem run_sizeOf {t : TypeId} (h : (P.info? t).isSome = true) : (sizeOf t).run P w = .ok (P.cellsOf t) w := by
  cases hi : P.info? t with
  | none => simp [hi] at h
  | some i => simp [sizeOf, typeInfo, program, hi, Program.cellsOf, Sem.run]

theorem run_typeInfo {t : TypeId} {i : TypeInfo} (h : P.info? t = some i) : (typeInfo t).run P w = .ok i w := by
  simp [typeInfo, program, h, Sem.run]

theorem run_zero {t : TypeId} {z : DVal} (h : zeroOf P t = some z) : ∃ v, (zeroValue t).run P w = .ok v w ∧ z = ofVal v := by
  unfold zeroOf at h
  cases hi : P.info? t with
  | none => simp [hi] at h
  | some i =>
    cases hz : i.zero with
    | none => simp [hi, hz] at h
    | some v =>
      simp [hi, hz] at h
      exact ⟨v, by simp [zeroValue, run_typeInfo hi, hz], h.symm⟩

theorem run_loadVar_agg {t : TypeId} (h : aggB P t = some true) {b off : Nat} {xs : List Value} (hx : Holds w b off xs) (hl : xs.length = P.cellsOf t) :
    (loadVar t ⟨b, off, none⟩).run P w = .ok (.agg xs.toArray) w := by
  simp only [loadVar, Sem.run_bind, run_isAgg h, Result.andThen_ok, if_true]
  simp only [run_sizeOf (info_of_agg h), Result.andThen_ok, ← hl, run_loadCells_holds hx, Sem.run_bind, Sem.run_pure]

theorem run_loadVar_one {t : TypeId} (h : aggB P t = some false) {b off : Nat} {x : Value} (hx : w.cell? ⟨b, off, none⟩ = some x) :
    (loadVar t ⟨b, off, none⟩).run P w = .ok x w := by
  simp [loadVar, run_isAgg h, hx]

end
end Go.Dl
