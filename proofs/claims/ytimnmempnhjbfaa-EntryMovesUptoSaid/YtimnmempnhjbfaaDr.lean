/-
  THE DATA LEVEL, PART R: further operations: addresses, slices, append, calls.
-/
import Derived.Test.YtimnmempnhjbfaaDq
set_option linter.unusedSimpArgs false
set_option linter.unusedVariables false
namespace Go.Dl
open Go

section
variable {P : Program} {G : Nat → DVal} {N : Fr}
variable {o : Oper} {s : DS} {a : Act} {w : World} {K : DK} {Qx : Exit → Act → World → Prop}

theorem s_fieldAddr (hS : Sim G N s a w) (hd : dstOk N o.dst = true) {t : TypeId} {x : Operand} {f : Nat} (hx : opdOk N x = true) (he : o.op = .fieldAddr t x f)
    (h : dFieldAddr P f (dev G s.env x) o.dst (P.underlying t) K s) : PV P o s a w K := by
  have r := rel_dev hS hx
  cases hu : P.underlying t with
  | none => rw [hu] at h; exact h.elim
  | some td =>
    rw [hu] at h
    cases td <;> try exact h.elim
    rename_i fs
    simp only [dFieldAddr] at h
    cases hf : fs[f]? with
    | none => rw [hf] at h; exact h.elim
    | some fd =>
      rw [hf] at h
      obtain ⟨hsz, h⟩ := h
      obtain ⟨d, hd', hK⟩ := dputO_some h
      have hi : (P.info? fd.type).isSome = true := by
        cases hi : P.info? fd.type with
        | none => simp [Program.cellsOf, hi] at hsz
        | some i => rfl
      have key : ∀ b off, a.eval x = .pointer (some ⟨b, off, none⟩) → (execOp a.eval o).run P w = .ok (.value (.pointer (some ⟨b, off + fd.offset, none⟩))) w := by
        intro b off hp
        simp [execOp, he, hp, Instr.fieldAt, run_underlying hu, hf, Instr.sureAddr, fieldPlace, run_sizeOf hi, Nat.pos_iff_ne_zero.1 hsz, add_lit]
      cases hv : dev G s.env x <;> rw [hv] at hd' r <;> simp only [dPtrAdd] at hd' <;> try (cases hd'; done)
      case vptr cs off =>
        cases hd'
        simp only [Rel] at r
        obtain ⟨b, o', xs, hp, hc, hl⟩ := r
        refine pvI hS hd (key _ _ hp) ?_ hK
        simp only [Rel]
        exact ⟨b, o', xs, by rw [Nat.add_assoc], hc, hl⟩
      case optr r0 off =>
        cases hd'
        simp only [Rel] at r
        exact pvI hS hd (key _ _ r) (by simp [Rel]) hK

theorem part_at {size : Nat} {ag : Option Bool} {t : TypeId} (hag : aggB P t = ag) (hsz : P.cellsOf t = size) {cs : List DVal} {xs : Array Value} {H : DHeap} (hr : RelL w H cs xs.toList) {off : Nat} {dst : Option Nat}
    (h : dPart size cs off dst ag K s) : ∃ d x, (part t xs off).run P w = .ok x w ∧ Rel w H d x ∧ dput dst d K s := by
  subst hsz
  cases ag with
  | none => exact h.elim
  | some ag =>
    cases ag with
    | true =>
      refine ⟨_, .agg (xs.extract off (off + P.cellsOf t)), by simp [part, run_isAgg hag, run_sizeOf (info_of_agg hag)], ?_, h⟩
      have : (xs.extract off (off + P.cellsOf t)).toList = (xs.toList.drop off).take (P.cellsOf t) := by simp [Array.toList_extract, List.extract]
      simp only [Rel]
      exact ⟨_, rfl, by rw [this]; exact (hr.drop off).take _⟩
    | false =>
      obtain ⟨d, hd, hK⟩ := dputO_some h
      obtain ⟨x, hx, hrel⟩ := hr.get hd
      have : xs[off]? = some x := by simpa using hx
      exact ⟨d, x, by simp [part, run_isAgg hag, this], hrel, hK⟩

theorem s_field (hS : Sim G N s a w) (hd : dstOk N o.dst = true) {t : TypeId} {x : Operand} {f : Nat} (hx : opdOk N x = true) (he : o.op = .field t x f)
    (h : dField P f o.dst (P.underlying t) (dev G s.env x) K s) : PV P o s a w K := by
  have r := rel_dev hS hx
  cases hu : P.underlying t with
  | none => rw [hu] at h; exact h.elim
  | some td =>
    rw [hu] at h
    cases td <;> try (cases dev G s.env x <;> exact h.elim)
    rename_i fs
    cases hv : dev G s.env x <;> rw [hv] at h r <;> try exact h.elim
    rename_i cs
    simp only [dField] at h
    simp only [Rel] at r
    obtain ⟨xs, hp, hl⟩ := r
    cases hf : fs[f]? with
    | none => rw [hf] at h; exact h.elim
    | some fd =>
      rw [hf] at h
      obtain ⟨d, y, hrun, hrel, hK⟩ := part_at (w := w) rfl rfl hl h
      refine pvI hS hd ?_ hrel hK
      simp [execOp, he, hp, Instr.field, run_underlying hu, hf, asAgg, hrun]

theorem s_indexAddr (hS : Sim G N s a w) (hd : dstOk N o.dst = true) {t : TypeId} {x i : Operand} (hx : opdOk N x = true) (hi : opdOk N i = true) (he : o.op = .indexAddr t x i)
    (h : dIndexAddr P o.dst (P.underlying t) (dev G s.env x) (dev G s.env i) K s) : PV P o s a w K := by
  have rx := rel_dev hS hx
  have ri := rel_dev hS hi
  generalize hu : P.underlying t = u at h
  generalize dev G s.env x = dx at h rx
  generalize dev G s.env i = di at h ri
  unfold dIndexAddr at h
  split at h
  · rename_i e cs len k n
    obtain ⟨hie, h0, hlt, hle, hK⟩ := h
    simp only [Rel] at rx ri
    obtain ⟨ad, cap, hp, hcap, hc⟩ := rx
    rcases hc with rfl | ⟨b, o', xs, rfl, hc, hl⟩
    · simp at hle
    · refine pvI hS hd (x := .pointer (some ⟨b, o' + n.toNat * P.cellsOf e, none⟩)) ?_ (by simp only [Rel]; exact ⟨b, o', xs, rfl, hc, hl⟩) hK
      simp [execOp, he, hp, ri, Instr.indexAt, asIntOf, run_underlying hu, run_sizeOf hie, h0, hlt, add_lit]
  · rename_i e _ r0 off len lo k n
    obtain ⟨hie, h0, hlt, hK⟩ := h
    simp only [Rel] at rx ri
    obtain ⟨o', cap, hp, hlo, hcap, hoff, _⟩ := rx
    have : o' = off := by rcases hoff with e | e <;> omega
    subst this
    refine pvI hS hd (x := .pointer (some ⟨r0, o' + n.toNat * P.cellsOf e, none⟩)) ?_ (by simp [Rel]) hK
    simp [execOp, he, hp, ri, Instr.indexAt, asIntOf, run_underlying hu, run_sizeOf hie, h0, hlt, add_lit]
  · rename_i m e k n
    obtain ⟨hie, h0, hlt, h⟩ := h
    simp only [Rel] at ri
    obtain ⟨d, hd', hK⟩ := dputO_some h
    have key : ∀ b off, a.eval x = .pointer (some ⟨b, off, none⟩) → (execOp a.eval o).run P w = .ok (.value (.pointer (some ⟨b, off + n.toNat * P.cellsOf e, none⟩))) w := by
      intro b off hp
      simp [execOp, he, hp, ri, Instr.indexAt, asIntOf, run_underlying hu, run_sizeOf hie, Instr.sureAddr, h0, hlt, add_lit]
    cases dx <;> simp only [dPtrAdd] at hd' <;> try (cases hd'; done)
    case vptr cs off =>
      cases hd'
      simp only [Rel] at rx
      obtain ⟨b, o', xs, hp, hc, hl⟩ := rx
      refine pvI hS hd (key _ _ hp) ?_ hK
      simp only [Rel]
      exact ⟨b, o', xs, by rw [Nat.add_assoc], hc, hl⟩
    case optr r0 off =>
      cases hd'
      simp only [Rel] at rx
      exact pvI hS hd (key _ _ rx) (by simp [Rel]) hK
  · exact h.elim

theorem s_index (hS : Sim G N s a w) (hd : dstOk N o.dst = true) {t : TypeId} {x i : Operand} (hx : opdOk N x = true) (hi : opdOk N i = true) (he : o.op = .index t x i)
    (h : dIndex P o.dst (P.underlying t) (dev G s.env x) (dev G s.env i) K s) : PV P o s a w K := by
  have rx := rel_dev hS hx
  have ri := rel_dev hS hi
  generalize hu : P.underlying t = u at h
  generalize dev G s.env x = dx at h rx
  generalize dev G s.env i = di at h ri
  unfold dIndex at h
  split at h
  · rename_i m e cs k n
    obtain ⟨h0, hlt, h⟩ := h
    simp only [Rel] at rx ri
    obtain ⟨xs, hp, hl⟩ := rx
    have hie : (P.info? e).isSome = true := by
      cases hag : aggB P e with
      | none => rw [hag] at h; exact h.elim
      | some b => exact info_of_agg hag
    obtain ⟨d, y, hrun, hrel, hK⟩ := part_at (w := w) rfl rfl hl h
    refine pvI hS hd ?_ hrel hK
    simp [execOp, he, hp, ri, Instr.index, asIntOf, run_underlying hu, h0, hlt, run_sizeOf hie, hrun]
  · rename_i l k n
    obtain ⟨h0, h⟩ := h
    obtain ⟨d, hd', hK⟩ := dputO_some h
    simp only [Option.map_eq_some_iff] at hd'
    obtain ⟨c, hc, rfl⟩ := hd'
    simp only [Rel] at rx ri
    refine pvI hS hd (x := .int .u8 c.toNat) ?_ (by simp [Rel]) hK
    have hb : (ByteArray.mk ⟨l⟩)[n.toNat]? = some c := by
      have hlt : n.toNat < l.length := by
        rcases Nat.lt_or_ge n.toNat l.length with h' | h'
        · exact h'
        · rw [List.getElem?_eq_none h'] at hc; cases hc
      rw [List.getElem?_eq_getElem hlt] at hc
      cases hc
      have : n.toNat < (ByteArray.mk ⟨l⟩).size := hlt
      rw [getElem?_pos (ByteArray.mk ⟨l⟩) n.toNat this]
      rfl
    simp [execOp, he, rx, ri, Instr.index, asIntOf, run_underlying hu, h0, hb]
  · exact h.elim

theorem zero_info {t : TypeId} {z : DVal} (h : zeroOf P t = some z) : ∃ i v, P.info? t = some i ∧ i.zero = some v ∧ z = ofVal v := by
  unfold zeroOf at h
  cases hi : P.info? t with
  | none => simp [hi] at h
  | some i =>
    cases hz : i.zero with
    | none => simp [hi, hz] at h
    | some v =>
      simp [hi, hz] at h
      exact ⟨i, v, rfl, hz, h.symm⟩

theorem s_makeSlice (hS : Sim G N s a w) (hd : dstOk N o.dst = true) {t : TypeId} {l c : Operand} (hl : opdOk N l = true) (hc : opdOk N c = true) (he : o.op = .makeSlice t l c)
    (h : dMakeSlice P o.dst (P.underlying t) (dev G s.env l) (dev G s.env c) K s) : o.wp P a w (NextS G N K s w) Qx := by
  have rl := rel_dev hS hl
  have rc := rel_dev hS hc
  generalize hu : P.underlying t = u at h
  generalize dev G s.env l = dl at h rl
  generalize dev G s.env c = dc at h rc
  unfold dMakeSlice at h
  split at h
  · rename_i e k n k' m
    simp only [Rel] at rl rc
    cases hz : zeroOf P e with
    | none => rw [hz] at h; exact h.elim
    | some z =>
      rw [hz] at h
      obtain ⟨h0, hle, hb, hm, hzl, hpos, h⟩ := h
      obtain ⟨ie, v, hie, hiz, rfl⟩ := zero_info hz
      have hby : P.bytesOf e = ie.bytes := by simp [Program.bytesOf, hie]
      have hcs : P.cellsOf e = ie.size := by simp [Program.cellsOf, hie]
      rw [hby] at hb
      have hvr : RelL w s.heap (ofVal v).cells v.cells.toList := cells_rel (rel_ofVal w s.heap v)
      have hr := relL_repl hvr m.toNat (m.toNat * ie.size) (by rw [hzl, hcs])
      have hrun := run_make (P := P) w t e ie v hu hie hiz k k' n m h0 hle (by rw [Int.mul_comm]; omega) (by omega)
      exact op_newS hS hd (n := w.drawn) (Nat.le_refl _) (by omega) (by simp [hcs]) (by simp [execOp, he, rl, rc, hrun]; rfl) hr (List.prefix_refl _) h
  · exact h.elim


-- slice expressions
theorem rel_devO (hS : Sim G N s a w) {x : Option Operand} (hx : (match x with | some x => opdOk N x | none => true) = true) :
    (x = none ∧ devO G s.env x = none) ∨ ∃ y, x = some y ∧ devO G s.env x = some (dev G s.env y) ∧ Rel w s.heap (dev G s.env y) (a.eval y) := by
  cases x with
  | none => exact .inl ⟨rfl, rfl⟩
  | some y => exact .inr ⟨y, rfl, rfl, rel_dev hS hx⟩

theorem run_sliceBound {k : IntKind} {n : Int} {y : Nat} {c : BoundsCode} (h0 : 0 ≤ n) (h1 : n ≤ y) : (Instr.sliceBound (.int k n) y c).run P w = .ok n.toNat w := by
  simp [Instr.sliceBound, asIntOf, h0, h1]

theorem dLo_some (hS : Sim G N s a w) {x : Option Operand} (hx : (match x with | some x => opdOk N x | none => true) = true) {n : Int} (h : dLo (devO G s.env x) = some n) :
    (x = none ∧ n = 0) ∨ ∃ y k, x = some y ∧ a.eval y = .int k n := by
  rcases rel_devO hS hx with ⟨rfl, e⟩ | ⟨y, rfl, e, r⟩
  · rw [e] at h; simp [dLo] at h; exact .inl ⟨rfl, h.symm⟩
  · rw [e] at h
    cases hd : dev G s.env y <;> rw [hd] at h r <;> simp [dLo] at h
    subst h
    simp only [Rel] at r
    exact .inr ⟨y, _, rfl, r⟩

theorem dHi_some (hS : Sim G N s a w) {x : Option Operand} (hx : (match x with | some x => opdOk N x | none => true) = true) {l : Nat} {n : Int} (h : dHi l (devO G s.env x) = some n) :
    (x = none ∧ n = l) ∨ ∃ y k, x = some y ∧ a.eval y = .int k n := by
  rcases rel_devO hS hx with ⟨rfl, e⟩ | ⟨y, rfl, e, r⟩
  · rw [e] at h; simp [dHi] at h; exact .inl ⟨rfl, h.symm⟩
  · rw [e] at h
    cases hd : dev G s.env y <;> rw [hd] at h r <;> simp [dHi] at h
    subst h
    simp only [Rel] at r
    exact .inr ⟨y, _, rfl, r⟩

/-- The bounds of a slice expression without a third index. -/
theorem run_bounds2 (hS : Sim G N s a w) {lo hi : Option Operand} (hlo : (match lo with | some x => opdOk N x | none => true) = true) (hhi : (match hi with | some x => opdOk N x | none => true) = true)
    {b : Bool} {len cap : Nat} {l h : Int} (el : dLo (devO G s.env lo) = some l) (eh : dHi len (devO G s.env hi) = some h) (h0 : 0 ≤ l) (h1 : l ≤ h) (h2 : h ≤ cap) :
    (Instr.sliceBounds b len cap (lo.map a.eval) (hi.map a.eval) none).run P w = .ok (l.toNat, h.toNat, cap) w := by
  rcases dLo_some hS hlo el with ⟨rfl, rfl⟩ | ⟨y, k, rfl, ey⟩ <;> rcases dHi_some hS hhi eh with ⟨rfl, rfl⟩ | ⟨z, k', rfl, ez⟩
  · simp [Instr.sliceBounds]
  · simp [Instr.sliceBounds, ez, run_sliceBound (P := P) (w := w) (k := k') (n := h) (y := cap) (by omega) h2]
  · simp [Instr.sliceBounds, ey, run_sliceBound (P := P) (w := w) (k := k) (n := l) (y := len) h0 h1]
  · have : l ≤ (h.toNat : Int) := by omega
    simp [Instr.sliceBounds, ey, ez, run_sliceBound (P := P) (w := w) (k := k') (n := h) (y := cap) (by omega) h2, run_sliceBound (P := P) (w := w) (k := k) (n := l) (y := h.toNat) h0 this]

/-- The bounds of a slice expression with a third index. -/
theorem run_bounds3 (hS : Sim G N s a w) {lo hi mx : Option Operand} (hlo : (match lo with | some x => opdOk N x | none => true) = true) (hhi : (match hi with | some x => opdOk N x | none => true) = true) (hmx : (match mx with | some x => opdOk N x | none => true) = true)
    {b : Bool} {len cap : Nat} {l h m : Int} (el : dLo (devO G s.env lo) = some l) (nh : hi ≠ none) (nm : mx ≠ none) (eh : dLo (devO G s.env hi) = some h) (em : dLo (devO G s.env mx) = some m) (h0 : 0 ≤ l) (h1 : l ≤ h) (h2 : h ≤ m) (h3 : m ≤ cap) :
    (Instr.sliceBounds b len cap (lo.map a.eval) (hi.map a.eval) (mx.map a.eval)).run P w = .ok (l.toNat, h.toNat, m.toNat) w := by
  obtain ⟨z, kz, rfl, ez⟩ := (dLo_some hS hhi eh).resolve_left (fun e => nh e.1)
  obtain ⟨u, ku, rfl, eu⟩ := (dLo_some hS hmx em).resolve_left (fun e => nm e.1)
  have r1 : h ≤ (m.toNat : Int) := by omega
  have r2 : l ≤ (h.toNat : Int) := by omega
  rcases dLo_some hS hlo el with ⟨rfl, rfl⟩ | ⟨y, k, rfl, ey⟩
  · simp [Instr.sliceBounds, ez, eu, run_sliceBound (P := P) (w := w) (k := ku) (n := m) (y := cap) (by omega) h3, run_sliceBound (P := P) (w := w) (k := kz) (n := h) (y := m.toNat) (by omega) r1]
  · simp [Instr.sliceBounds, ez, eu, ey, run_sliceBound (P := P) (w := w) (k := ku) (n := m) (y := cap) (by omega) h3, run_sliceBound (P := P) (w := w) (k := kz) (n := h) (y := m.toNat) (by omega) r1, run_sliceBound (P := P) (w := w) (k := k) (n := l) (y := h.toNat) h0 r2]

theorem Room.le {r n m : Nat} (h : Room w r n) (hm : m ≤ n) : Room w r m := ⟨h.1, fun k hk => Nat.le_trans hm (h.2 k hk)⟩

theorem s_slice (hS : Sim G N s a w) (hd : dstOk N o.dst = true) {t : TypeId} {x : Operand} {lo hi mx : Option Operand} (hx : opdOk N x = true)
    (hlo : (match lo with | some x => opdOk N x | none => true) = true) (hhi : (match hi with | some x => opdOk N x | none => true) = true) (hmx : (match mx with | some x => opdOk N x | none => true) = true) (he : o.op = .slice t x lo hi mx)
    (h : dSlice P (devO G s.env lo) (devO G s.env hi) o.dst (P.underlying t) (dev G s.env x) (devO G s.env mx) K s) : PV P o s a w K := by
  have rx := rel_dev hS hx
  generalize hu : P.underlying t = u at h
  generalize dev G s.env x = dx at h rx
  generalize hm : devO G s.env mx = dm at h
  have hmn : dm = none → mx = none := by
    intro e; subst e
    cases mx with
    | none => rfl
    | some y => simp [devO] at hm
  unfold dSlice at h
  split at h
  · -- a string
    rename_i l
    obtain rfl := hmn rfl
    simp only [Rel] at rx
    unfold dSliceStr at h
    split at h <;> try exact h.elim
    rename_i lo' hi' el eh
    obtain ⟨h0, h1, h2, hK⟩ := h
    have hb := run_bounds2 (P := P) hS hlo hhi (b := false) (cap := l.length) el eh h0 h1 h2
    refine pvI hS hd (x := .string ⟨⟨(l.drop lo'.toNat).take (hi'.toNat - lo'.toNat)⟩⟩) ?_ (by simp [Rel]) hK
    have hsz : (ByteArray.mk ⟨l⟩).size = l.length := rfl
    have hex : (ByteArray.mk ⟨l⟩).extract lo'.toNat hi'.toNat = ⟨⟨(l.drop lo'.toNat).take (hi'.toNat - lo'.toNat)⟩⟩ := by
      apply ByteArray.ext
      rw [ByteArray.data_extract]
      apply Array.ext'
      simp [Array.toList_extract, List.extract]
    simp [execOp, he, rx, Instr.sliceAt, Instr.slice, run_underlying hu, hsz, hb, hex]
  · -- a nil slice
    rename_i e
    obtain rfl := hmn rfl
    obtain ⟨hie, h⟩ := h
    simp only [Rel] at rx
    unfold dSliceN at h
    split at h <;> try exact h.elim
    rename_i lo' hi' el eh
    obtain ⟨rfl, rfl, hK⟩ := h
    have hb := run_bounds2 (P := P) hS hlo hhi (b := true) (cap := 0) el eh (by omega) (by omega) (by omega)
    refine pvI hS hd (x := .slice none 0 0) ?_ (by simp [Rel]) hK
    simp [execOp, he, rx, Instr.sliceAt, Instr.slice, run_underlying hu, hb, run_sizeOf hie]
  · -- memory that lasts
    rename_i e cs len
    obtain rfl := hmn rfl
    obtain ⟨hie, h⟩ := h
    simp only [Rel] at rx
    obtain ⟨ad, cap, hp, hcap, hc⟩ := rx
    unfold dSliceV at h
    split at h <;> try exact h.elim
    rename_i lo' hi' el eh
    obtain ⟨h0, h1, h2, hK⟩ := h
    have hb := run_bounds2 (P := P) hS hlo hhi (b := true) (cap := cap) el eh h0 h1 (by omega)
    refine pvI hS hd (x := .slice (if cap = lo'.toNat then ad else ad.map (·.add (lo'.toNat * P.cellsOf e))) (hi'.toNat - lo'.toNat) (cap - lo'.toNat)) ?_ ?_ hK
    · simp [execOp, he, hp, Instr.sliceAt, Instr.slice, run_underlying hu, hb, run_sizeOf hie]
    · simp only [Rel]
      refine ⟨_, _, rfl, by omega, ?_⟩
      by_cases hcl : cap = lo'.toNat
      · have : hi'.toNat - lo'.toNat = 0 := by omega
        rw [this]; exact .inl (by simp)
      · rw [if_neg hcl]
        rcases hc with rfl | ⟨b, o', xs, rfl, hc, hl⟩
        · exact .inl (by simp)
        · refine .inr ⟨b, o' + lo'.toNat * P.cellsOf e, (xs.drop (lo'.toNat * P.cellsOf e)).take ((hi'.toNat - lo'.toNat) * P.cellsOf e), by simp [add_lit], ?_, (hl.drop _).take _⟩
          rcases hc with rfl | ⟨g1, g2⟩
          · exact .inl (by simp)
          · exact .inr ⟨g1, (Holds.drop g2).take⟩
  · -- a slice of the call's own
    rename_i e sz r0 off len lo0
    obtain rfl := hmn rfl
    obtain ⟨hie, rfl, h⟩ := h
    simp only [Rel] at rx
    obtain ⟨o', cap, hp, hlo0, hcap, hoff, hroom⟩ := rx
    unfold dSliceO at h
    split at h <;> try exact h.elim
    rename_i lo' hi' mx' el eh em
    cases em
    obtain ⟨h0, h1, h2, h3, hK⟩ := h
    have hb := run_bounds2 (P := P) hS hlo hhi (b := true) (cap := cap) el eh h0 h1 (by omega)
    refine pvI hS hd (x := .slice (if cap = lo'.toNat then some ⟨r0, o', none⟩ else some ⟨r0, o' + lo'.toNat * P.cellsOf e, none⟩) (hi'.toNat - lo'.toNat) (cap - lo'.toNat)) ?_ ?_ hK
    · simp [execOp, he, hp, Instr.sliceAt, Instr.slice, run_underlying hu, hb, run_sizeOf hie, add_lit]
    · simp only [Rel]
      have hsub : (cap - lo'.toNat) * P.cellsOf e + lo'.toNat * P.cellsOf e = cap * P.cellsOf e := by
        rw [← Nat.add_mul]; congr 1; omega
      by_cases hcl : cap = lo'.toNat
      · exact ⟨o', cap - lo'.toNat, by simp [hcl], by omega, by omega, .inl (by omega), hroom.le (by omega)⟩
      · refine ⟨o' + lo'.toNat * P.cellsOf e, cap - lo'.toNat, by simp [hcl], by omega, by omega, .inr ?_, hroom.le (by omega)⟩
        rcases hoff with e1 | e1
        · omega
        · rw [e1]
  · -- a slice of the call's own, with a third index
    rename_i e sz r0 off len lo0 m
    obtain ⟨hie, rfl, hhs, h⟩ := h
    simp only [Rel] at rx
    obtain ⟨o', cap, hp, hlo0, hcap, hoff, hroom⟩ := rx
    unfold dSliceO at h
    split at h <;> try exact h.elim
    rename_i lo' hi' mx' el eh em
    obtain ⟨h0, h1, h2, h3, hK⟩ := h
    have hhn : hi ≠ none := by rintro rfl; simp [devO] at hhs
    have hmn' : mx ≠ none := by rintro rfl; simp [devO] at hm
    have hb := run_bounds3 (P := P) hS hlo hhi hmx (b := true) (len := len) (cap := cap) el hhn hmn' eh (by rw [hm]; exact em) h0 h1 h2 (by omega)
    refine pvI hS hd (x := .slice (if mx'.toNat = lo'.toNat then some ⟨r0, o', none⟩ else some ⟨r0, o' + lo'.toNat * P.cellsOf e, none⟩) (hi'.toNat - lo'.toNat) (mx'.toNat - lo'.toNat)) ?_ ?_ hK
    · simp [execOp, he, hp, Instr.sliceAt, Instr.slice, run_underlying hu, hb, run_sizeOf hie, add_lit]
    · simp only [Rel]
      have hsub : (mx'.toNat - lo'.toNat) * P.cellsOf e + lo'.toNat * P.cellsOf e = mx'.toNat * P.cellsOf e := by
        rw [← Nat.add_mul]; congr 1; omega
      have hmc : mx'.toNat * P.cellsOf e ≤ cap * P.cellsOf e := Nat.mul_le_mul_right _ (by omega)
      by_cases hcl : mx'.toNat = lo'.toNat
      · exact ⟨o', mx'.toNat - lo'.toNat, by simp [hcl], by omega, by omega, .inl (by omega), hroom.le (by omega)⟩
      · refine ⟨o' + lo'.toNat * P.cellsOf e, mx'.toNat - lo'.toNat, by simp [hcl], by omega, by omega, .inr ?_, hroom.le (by omega)⟩
        rcases hoff with e1 | e1
        · omega
        · rw [e1]
  · -- an array of the call's own
    rename_i n e r0 off
    obtain rfl := hmn rfl
    obtain ⟨hie, hrm, h⟩ := h
    simp only [Rel] at rx
    have hroom : Room w r0 (off + n * P.cellsOf e) := by
      cases hh : s.heap r0 with
      | none => rw [hh] at hrm; exact hrm.elim
      | some ob =>
        cases ob with
        | loop => rw [hh] at hrm; exact hrm.elim
        | map => rw [hh] at hrm; exact hrm.elim
        | cells cs e' =>
          rw [hh] at hrm
          obtain ⟨xs, c, fz, g1, g2, g3, g4⟩ := hS.heap r0 _ hh
          refine ⟨hS.heap.lt (by simp [hh]), fun k hk => ?_⟩
          rw [g1] at hk
          simp [csize] at hk
          have := g3.length
          have := g2.length_le
          simp only [Array.length_toList] at this
          simp only [dRoom] at hrm
          omega
    unfold dSliceO at h
    split at h <;> try exact h.elim
    rename_i lo' hi' mx' el eh em
    cases em
    obtain ⟨h0, h1, h2, h3, hK⟩ := h
    have hb := run_bounds2 (P := P) hS hlo hhi (b := false) (cap := n) el eh h0 h1 h2
    refine pvI hS hd (x := .slice (some (if n = lo'.toNat then ⟨r0, off, none⟩ else ⟨r0, off + lo'.toNat * P.cellsOf e, none⟩)) (hi'.toNat - lo'.toNat) (n - lo'.toNat)) ?_ ?_ hK
    · simp [execOp, he, rx, Instr.sliceAt, run_underlying hu, Instr.sureAddr, hb, run_sizeOf hie, add_lit]
    · simp only [Rel]
      have hsub : (n - lo'.toNat) * P.cellsOf e + lo'.toNat * P.cellsOf e = n * P.cellsOf e := by
        rw [← Nat.add_mul]; congr 1; omega
      by_cases hcl : n = lo'.toNat
      · exact ⟨off, n - lo'.toNat, by simp [hcl], by omega, by omega, .inl (by omega), hroom.le (by omega)⟩
      · exact ⟨off + lo'.toNat * P.cellsOf e, n - lo'.toNat, by simp [hcl], by omega, by omega, .inr rfl, hroom.le (by omega)⟩
  · -- an array in memory that lasts
    rename_i n e cs off
    obtain rfl := hmn rfl
    obtain ⟨hie, hle, h⟩ := h
    simp only [Rel] at rx
    obtain ⟨b, o', xs, hp, hc, hl⟩ := rx
    unfold dSliceV at h
    split at h <;> try exact h.elim
    rename_i lo' hi' el eh
    obtain ⟨h0, h1, h2, hK⟩ := h
    have hb := run_bounds2 (P := P) hS hlo hhi (b := false) (cap := n) el eh h0 h1 h2
    refine pvI hS hd (x := .slice (some (if n = lo'.toNat then ⟨b, o' + off, none⟩ else ⟨b, o' + off + lo'.toNat * P.cellsOf e, none⟩)) (hi'.toNat - lo'.toNat) (n - lo'.toNat)) ?_ ?_ hK
    · simp [execOp, he, hp, Instr.sliceAt, run_underlying hu, Instr.sureAddr, hb, run_sizeOf hie, add_lit]
    · simp only [Rel]
      refine ⟨_, _, rfl, by omega, ?_⟩
      by_cases hcl : n = lo'.toNat
      · have : hi'.toNat - lo'.toNat = 0 := by omega
        rw [this]; exact .inl (by simp)
      · rw [if_neg hcl]
        refine .inr ⟨b, o' + off + lo'.toNat * P.cellsOf e, ((((xs.drop off).take (n * P.cellsOf e)).drop (lo'.toNat * P.cellsOf e)).take ((hi'.toNat - lo'.toNat) * P.cellsOf e)), rfl, ?_, (((hl.drop _).take _).drop _).take _⟩
        rcases hc with rfl | ⟨g1, g2⟩
        · exact .inl (by simp)
        · exact .inr ⟨g1, (Holds.drop (Holds.take (Holds.drop g2))).take⟩
  · exact h.elim

end
end Go.Dl
