/- The data level and the contracts of the functions that are reached (part 2). -/
import Derived.Laws.BytesString
import Derived.Laws.RangeString
import Derived.Test.YtbgelenonjfajaaLFa
set_option linter.unusedSimpArgs false
set_option linter.unusedVariables false
-- THE DATA LEVEL, PART R: further operations: addresses, slices, append, calls.
namespace Go.Dl
open Go

section
variable {P : Program} {G : Nat → DVal} {N : Fr}
variable {o : Oper} {s : DS} {a : Act} {w : World} {K : DK} {Qx : Exit → Act → World → Prop}

theorem s_fieldAddr (hS : Sim G N s a w) (hd : dstOk N o.dst = true) {t : TypeId} {x : Operand} {f : Nat} (hx : opdOk N x = true) (he : o.op = .fieldAddr t x f)
    (h : dFieldAddr P f (dev G s.env x) o.dst (P.underlying t) K s) : PV P o s a w K := by
  have r := rel_dev hS hx
  cases hu : P.underlying t with
  | none => rw [hu] at h; exact h.elim
  | some td =>
    rw [hu] at h
    cases td <;> try exact h.elim
    rename_i fs
    simp only [dFieldAddr] at h
    cases hf : fs[f]? with
    | none => rw [hf] at h; exact h.elim
    | some fd =>
      rw [hf] at h
      obtain ⟨hsz, h⟩ := h
      obtain ⟨d, hd', hK⟩ := dputO_some h
      have hi : (P.info? fd.type).isSome = true := by
        cases hi : P.info? fd.type with
        | none => simp [Program.cellsOf, hi] at hsz
        | some i => rfl
      have key : ∀ b off, a.eval x = .pointer (some ⟨b, off, none⟩) → (execOp a.eval o).run P w = .ok (.value (.pointer (some ⟨b, off + fd.offset, none⟩))) w := by
        intro b off hp
        simp [execOp, he, hp, Instr.fieldAt, run_underlying hu, hf, Instr.sureAddr, fieldPlace, run_sizeOf hi, Nat.pos_iff_ne_zero.1 hsz, add_lit]
      cases hv : dev G s.env x <;> rw [hv] at hd' r <;> simp only [dPtrAdd] at hd' <;> try (cases hd'; done)
      case vptr cs off =>
        cases hd'
        simp only [Rel] at r
        obtain ⟨b, o', xs, hp, hc, hl⟩ := r
        refine pvI hS hd (key _ _ hp) ?_ hK
        simp only [Rel]
        exact ⟨b, o', xs, by rw [Nat.add_assoc], hc, hl⟩
      case optr r0 off =>
        cases hd'
        simp only [Rel] at r
        exact pvI hS hd (key _ _ r) (by simp [Rel]) hK

theorem part_at {size : Nat} {ag : Option Bool} {t : TypeId} (hag : aggB P t = ag) (hsz : P.cellsOf t = size) {cs : List DVal} {xs : Array Value} {H : DHeap} (hr : RelL w H cs xs.toList) {off : Nat} {dst : Option Nat}
    (h : dPart size cs off dst ag K s) : ∃ d x, (part t xs off).run P w = .ok x w ∧ Rel w H d x ∧ dput dst d K s := by
  subst hsz
  cases ag with
  | none => exact h.elim
  | some ag =>
    cases ag with
    | true =>
      refine ⟨_, .agg (xs.extract off (off + P.cellsOf t)), by simp [part, run_isAgg hag, run_sizeOf (info_of_agg hag)], ?_, h⟩
      have : (xs.extract off (off + P.cellsOf t)).toList = (xs.toList.drop off).take (P.cellsOf t) := by simp [Array.toList_extract, List.extract]
      simp only [Rel]
      exact ⟨_, rfl, by rw [this]; exact (hr.drop off).take _⟩
    | false =>
      obtain ⟨d, hd, hK⟩ := dputO_some h
      obtain ⟨x, hx, hrel⟩ := hr.get hd
      have : xs[off]? = some x := by simpa using hx
      exact ⟨d, x, by simp [part, run_isAgg hag, this], hrel, hK⟩

theorem s_field (hS : Sim G N s a w) (hd : dstOk N o.dst = true) {t : TypeId} {x : Operand} {f : Nat} (hx : opdOk N x = true) (he : o.op = .field t x f)
    (h : dField P f o.dst (P.underlying t) (dev G s.env x) K s) : PV P o s a w K := by
  have r := rel_dev hS hx
  cases hu : P.underlying t with
  | none => rw [hu] at h; exact h.elim
  | some td =>
    rw [hu] at h
    cases td <;> try (cases dev G s.env x <;> exact h.elim)
    rename_i fs
    cases hv : dev G s.env x <;> rw [hv] at h r <;> try exact h.elim
    rename_i cs
    simp only [dField] at h
    simp only [Rel] at r
    obtain ⟨xs, hp, hl⟩ := r
    cases hf : fs[f]? with
    | none => rw [hf] at h; exact h.elim
    | some fd =>
      rw [hf] at h
      obtain ⟨d, y, hrun, hrel, hK⟩ := part_at (w := w) rfl rfl hl h
      refine pvI hS hd ?_ hrel hK
      simp [execOp, he, hp, Instr.field, run_underlying hu, hf, asAgg, hrun]

theorem s_indexAddr (hS : Sim G N s a w) (hd : dstOk N o.dst = true) {t : TypeId} {x i : Operand} (hx : opdOk N x = true) (hi : opdOk N i = true) (he : o.op = .indexAddr t x i)
    (h : dIndexAddr P o.dst (P.underlying t) (dev G s.env x) (dev G s.env i) K s) : PV P o s a w K := by
  have rx := rel_dev hS hx
  have ri := rel_dev hS hi
  generalize hu : P.underlying t = u at h
  generalize dev G s.env x = dx at h rx
  generalize dev G s.env i = di at h ri
  unfold dIndexAddr at h
  split at h
  · rename_i e cs len k n
    obtain ⟨hie, h0, hlt, hle, hK⟩ := h
    simp only [Rel] at rx ri
    obtain ⟨ad, cap, hp, hcap, hc⟩ := rx
    rcases hc with rfl | ⟨b, o', xs, rfl, hc, hl⟩
    · simp at hle
    · refine pvI hS hd (x := .pointer (some ⟨b, o' + n.toNat * P.cellsOf e, none⟩)) ?_ (by simp only [Rel]; exact ⟨b, o', xs, rfl, hc, hl⟩) hK
      simp [execOp, he, hp, ri, Instr.indexAt, asIntOf, run_underlying hu, run_sizeOf hie, h0, hlt, add_lit]
  · rename_i e _ r0 off len lo k n
    obtain ⟨hie, h0, hlt, hK⟩ := h
    simp only [Rel] at rx ri
    obtain ⟨o', cap, hp, hlo, hcap, hoff, _⟩ := rx
    have : o' = off := by rcases hoff with e | e <;> omega
    subst this
    refine pvI hS hd (x := .pointer (some ⟨r0, o' + n.toNat * P.cellsOf e, none⟩)) ?_ (by simp [Rel]) hK
    simp [execOp, he, hp, ri, Instr.indexAt, asIntOf, run_underlying hu, run_sizeOf hie, h0, hlt, add_lit]
  · rename_i m e k n
    obtain ⟨hie, h0, hlt, h⟩ := h
    simp only [Rel] at ri
    obtain ⟨d, hd', hK⟩ := dputO_some h
    have key : ∀ b off, a.eval x = .pointer (some ⟨b, off, none⟩) → (execOp a.eval o).run P w = .ok (.value (.pointer (some ⟨b, off + n.toNat * P.cellsOf e, none⟩))) w := by
      intro b off hp
      simp [execOp, he, hp, ri, Instr.indexAt, asIntOf, run_underlying hu, run_sizeOf hie, Instr.sureAddr, h0, hlt, add_lit]
    cases dx <;> simp only [dPtrAdd] at hd' <;> try (cases hd'; done)
    case vptr cs off =>
      cases hd'
      simp only [Rel] at rx
      obtain ⟨b, o', xs, hp, hc, hl⟩ := rx
      refine pvI hS hd (key _ _ hp) ?_ hK
      simp only [Rel]
      exact ⟨b, o', xs, by rw [Nat.add_assoc], hc, hl⟩
    case optr r0 off =>
      cases hd'
      simp only [Rel] at rx
      exact pvI hS hd (key _ _ rx) (by simp [Rel]) hK
  · exact h.elim

theorem s_index (hS : Sim G N s a w) (hd : dstOk N o.dst = true) {t : TypeId} {x i : Operand} (hx : opdOk N x = true) (hi : opdOk N i = true) (he : o.op = .index t x i)
    (h : dIndex P o.dst (P.underlying t) (dev G s.env x) (dev G s.env i) K s) : PV P o s a w K := by
  have rx := rel_dev hS hx
  have ri := rel_dev hS hi
  generalize hu : P.underlying t = u at h
  generalize dev G s.env x = dx at h rx
  generalize dev G s.env i = di at h ri
  unfold dIndex at h
  split at h
  · rename_i m e cs k n
    obtain ⟨h0, hlt, h⟩ := h
    simp only [Rel] at rx ri
    obtain ⟨xs, hp, hl⟩ := rx
    have hie : (P.info? e).isSome = true := by
      cases hag : aggB P e with
      | none => rw [hag] at h; exact h.elim
      | some b => exact info_of_agg hag
    obtain ⟨d, y, hrun, hrel, hK⟩ := part_at (w := w) rfl rfl hl h
    refine pvI hS hd ?_ hrel hK
    simp [execOp, he, hp, ri, Instr.index, asIntOf, run_underlying hu, h0, hlt, run_sizeOf hie, hrun]
  · rename_i l k n
    obtain ⟨h0, h⟩ := h
    obtain ⟨d, hd', hK⟩ := dputO_some h
    simp only [Option.map_eq_some_iff] at hd'
    obtain ⟨c, hc, rfl⟩ := hd'
    simp only [Rel] at rx ri
    refine pvI hS hd (x := .int .u8 c.toNat) ?_ (by simp [Rel]) hK
    have hb : (ByteArray.mk ⟨l⟩)[n.toNat]? = some c := by
      have hlt : n.toNat < l.length := by
        rcases Nat.lt_or_ge n.toNat l.length with h' | h'
        · exact h'
        · rw [List.getElem?_eq_none h'] at hc; cases hc
      rw [List.getElem?_eq_getElem hlt] at hc
      cases hc
      have : n.toNat < (ByteArray.mk ⟨l⟩).size := hlt
      rw [getElem?_pos (ByteArray.mk ⟨l⟩) n.toNat this]
      rfl
    simp [execOp, he, rx, ri, Instr.index, asIntOf, run_underlying hu, h0, hb]
  · exact h.elim

theorem zero_info {t : TypeId} {z : DVal} (h : zeroOf P t = some z) : ∃ i v, P.info? t = some i ∧ i.zero = some v ∧ z = ofVal v := by
  unfold zeroOf at h
  cases hi : P.info? t with
  | none => simp [hi] at h
  | some i =>
    cases hz : i.zero with
    | none => simp [hi, hz] at h
    | some v =>
      simp [hi, hz] at h
      exact ⟨i, v, rfl, hz, h.symm⟩

theorem s_makeSlice (hS : Sim G N s a w) (hd : dstOk N o.dst = true) {t : TypeId} {l c : Operand} (hl : opdOk N l = true) (hc : opdOk N c = true) (he : o.op = .makeSlice t l c)
    (h : dMakeSlice P o.dst (P.underlying t) (dev G s.env l) (dev G s.env c) K s) : o.wp P a w (NextS G N K s w) Qx := by
  have rl := rel_dev hS hl
  have rc := rel_dev hS hc
  generalize hu : P.underlying t = u at h
  generalize dev G s.env l = dl at h rl
  generalize dev G s.env c = dc at h rc
  unfold dMakeSlice at h
  split at h
  · rename_i e k n k' m
    simp only [Rel] at rl rc
    cases hz : zeroOf P e with
    | none => rw [hz] at h; exact h.elim
    | some z =>
      rw [hz] at h
      obtain ⟨h0, hle, hb, hm, hzl, hpos, h⟩ := h
      obtain ⟨ie, v, hie, hiz, rfl⟩ := zero_info hz
      have hby : P.bytesOf e = ie.bytes := by simp [Program.bytesOf, hie]
      have hcs : P.cellsOf e = ie.size := by simp [Program.cellsOf, hie]
      rw [hby] at hb
      have hvr : RelL w s.heap (ofVal v).cells v.cells.toList := cells_rel (rel_ofVal w s.heap v)
      have hr := relL_repl hvr m.toNat (m.toNat * ie.size) (by rw [hzl, hcs])
      have hrun := run_make (P := P) w t e ie v hu hie hiz k k' n m h0 hle (by rw [Int.mul_comm]; omega) (by omega)
      exact op_newS hS hd (n := w.drawn) (Nat.le_refl _) (by omega) (by simp [hcs]) (by simp [execOp, he, rl, rc, hrun]; rfl) hr (List.prefix_refl _) h
  · exact h.elim


-- slice expressions
theorem rel_devO (hS : Sim G N s a w) {x : Option Operand} (hx : (match x with | some x => opdOk N x | none => true) = true) :
    (x = none ∧ devO G s.env x = none) ∨ ∃ y, x = some y ∧ devO G s.env x = some (dev G s.env y) ∧ Rel w s.heap (dev G s.env y) (a.eval y) := by
  cases x with
  | none => exact .inl ⟨rfl, rfl⟩
  | some y => exact .inr ⟨y, rfl, rfl, rel_dev hS hx⟩

theorem run_sliceBound {k : IntKind} {n : Int} {y : Nat} {c : BoundsCode} (h0 : 0 ≤ n) (h1 : n ≤ y) : (Instr.sliceBound (.int k n) y c).run P w = .ok n.toNat w := by
  simp [Instr.sliceBound, asIntOf, h0, h1]

theorem dLo_some (hS : Sim G N s a w) {x : Option Operand} (hx : (match x with | some x => opdOk N x | none => true) = true) {n : Int} (h : dLo (devO G s.env x) = some n) :
    (x = none ∧ n = 0) ∨ ∃ y k, x = some y ∧ a.eval y = .int k n := by
  rcases rel_devO hS hx with ⟨rfl, e⟩ | ⟨y, rfl, e, r⟩
  · rw [e] at h; simp [dLo] at h; exact .inl ⟨rfl, h.symm⟩
  · rw [e] at h
    cases hd : dev G s.env y <;> rw [hd] at h r <;> simp [dLo] at h
    subst h
    simp only [Rel] at r
    exact .inr ⟨y, _, rfl, r⟩

theorem dHi_some (hS : Sim G N s a w) {x : Option Operand} (hx : (match x with | some x => opdOk N x | none => true) = true) {l : Nat} {n : Int} (h : dHi l (devO G s.env x) = some n) :
    (x = none ∧ n = l) ∨ ∃ y k, x = some y ∧ a.eval y = .int k n := by
  rcases rel_devO hS hx with ⟨rfl, e⟩ | ⟨y, rfl, e, r⟩
  · rw [e] at h; simp [dHi] at h; exact .inl ⟨rfl, h.symm⟩
  · rw [e] at h
    cases hd : dev G s.env y <;> rw [hd] at h r <;> simp [dHi] at h
    subst h
    simp only [Rel] at r
    exact .inr ⟨y, _, rfl, r⟩

/-- The bounds of a slice expression without a third index. -/
theorem run_bounds2 (hS : Sim G N s a w) {lo hi : Option Operand} (hlo : (match lo with | some x => opdOk N x | none => true) = true) (hhi : (match hi with | some x => opdOk N x | none => true) = true)
    {b : Bool} {len cap : Nat} {l h : Int} (el : dLo (devO G s.env lo) = some l) (eh : dHi len (devO G s.env hi) = some h) (h0 : 0 ≤ l) (h1 : l ≤ h) (h2 : h ≤ cap) :
    (Instr.sliceBounds b len cap (lo.map a.eval) (hi.map a.eval) none).run P w = .ok (l.toNat, h.toNat, cap) w := by
  rcases dLo_some hS hlo el with ⟨rfl, rfl⟩ | ⟨y, k, rfl, ey⟩ <;> rcases dHi_some hS hhi eh with ⟨rfl, rfl⟩ | ⟨z, k', rfl, ez⟩
  · simp [Instr.sliceBounds]
  · simp [Instr.sliceBounds, ez, run_sliceBound (P := P) (w := w) (k := k') (n := h) (y := cap) (by omega) h2]
  · simp [Instr.sliceBounds, ey, run_sliceBound (P := P) (w := w) (k := k) (n := l) (y := len) h0 h1]
  · have : l ≤ (h.toNat : Int) := by omega
    simp [Instr.sliceBounds, ey, ez, run_sliceBound (P := P) (w := w) (k := k') (n := h) (y := cap) (by omega) h2, run_sliceBound (P := P) (w := w) (k := k) (n := l) (y := h.toNat) h0 this]

/-- The bounds of a slice expression with a third index. -/
theorem run_bounds3 (hS : Sim G N s a w) {lo hi mx : Option Operand} (hlo : (match lo with | some x => opdOk N x | none => true) = true) (hhi : (match hi with | some x => opdOk N x | none => true) = true) (hmx : (match mx with | some x => opdOk N x | none => true) = true)
    {b : Bool} {len cap : Nat} {l h m : Int} (el : dLo (devO G s.env lo) = some l) (nh : hi ≠ none) (nm : mx ≠ none) (eh : dLo (devO G s.env hi) = some h) (em : dLo (devO G s.env mx) = some m) (h0 : 0 ≤ l) (h1 : l ≤ h) (h2 : h ≤ m) (h3 : m ≤ cap) :
    (Instr.sliceBounds b len cap (lo.map a.eval) (hi.map a.eval) (mx.map a.eval)).run P w = .ok (l.toNat, h.toNat, m.toNat) w := by
  obtain ⟨z, kz, rfl, ez⟩ := (dLo_some hS hhi eh).resolve_left (fun e => nh e.1)
  obtain ⟨u, ku, rfl, eu⟩ := (dLo_some hS hmx em).resolve_left (fun e => nm e.1)
  have r1 : h ≤ (m.toNat : Int) := by omega
  have r2 : l ≤ (h.toNat : Int) := by omega
  rcases dLo_some hS hlo el with ⟨rfl, rfl⟩ | ⟨y, k, rfl, ey⟩
  · simp [Instr.sliceBounds, ez, eu, run_sliceBound (P := P) (w := w) (k := ku) (n := m) (y := cap) (by omega) h3, run_sliceBound (P := P) (w := w) (k := kz) (n := h) (y := m.toNat) (by omega) r1]
  · simp [Instr.sliceBounds, ez, eu, ey, run_sliceBound (P := P) (w := w) (k := ku) (n := m) (y := cap) (by omega) h3, run_sliceBound (P := P) (w := w) (k := kz) (n := h) (y := m.toNat) (by omega) r1, run_sliceBound (P := P) (w := w) (k := k) (n := l) (y := h.toNat) h0 r2]

theorem Room.le {r n m : Nat} (h : Room w r n) (hm : m ≤ n) : Room w r m := ⟨h.1, fun k hk => Nat.le_trans hm (h.2 k hk)⟩

theorem s_slice (hS : Sim G N s a w) (hd : dstOk N o.dst = true) {t : TypeId} {x : Operand} {lo hi mx : Option Operand} (hx : opdOk N x = true)
    (hlo : (match lo with | some x => opdOk N x | none => true) = true) (hhi : (match hi with | some x => opdOk N x | none => true) = true) (hmx : (match mx with | some x => opdOk N x | none => true) = true) (he : o.op = .slice t x lo hi mx)
    (h : dSlice P (devO G s.env lo) (devO G s.env hi) o.dst (P.underlying t) (dev G s.env x) (devO G s.env mx) K s) : PV P o s a w K := by
  have rx := rel_dev hS hx
  generalize hu : P.underlying t = u at h
  generalize dev G s.env x = dx at h rx
  generalize hm : devO G s.env mx = dm at h
  have hmn : dm = none → mx = none := by
    intro e; subst e
    cases mx with
    | none => rfl
    | some y => simp [devO] at hm
  unfold dSlice at h
  split at h
  · -- a string
    rename_i l
    obtain rfl := hmn rfl
    simp only [Rel] at rx
    unfold dSliceStr at h
    split at h <;> try exact h.elim
    rename_i lo' hi' el eh
    obtain ⟨h0, h1, h2, hK⟩ := h
    have hb := run_bounds2 (P := P) hS hlo hhi (b := false) (cap := l.length) el eh h0 h1 h2
    refine pvI hS hd (x := .string ⟨⟨(l.drop lo'.toNat).take (hi'.toNat - lo'.toNat)⟩⟩) ?_ (by simp [Rel]) hK
    have hsz : (ByteArray.mk ⟨l⟩).size = l.length := rfl
    have hex : (ByteArray.mk ⟨l⟩).extract lo'.toNat hi'.toNat = ⟨⟨(l.drop lo'.toNat).take (hi'.toNat - lo'.toNat)⟩⟩ := by
      apply ByteArray.ext
      rw [ByteArray.data_extract]
      apply Array.ext'
      simp [Array.toList_extract, List.extract]
    simp [execOp, he, rx, Instr.sliceAt, Instr.slice, run_underlying hu, hsz, hb, hex]
  · -- a nil slice
    rename_i e
    obtain rfl := hmn rfl
    obtain ⟨hie, h⟩ := h
    simp only [Rel] at rx
    unfold dSliceN at h
    split at h <;> try exact h.elim
    rename_i lo' hi' el eh
    obtain ⟨rfl, rfl, hK⟩ := h
    have hb := run_bounds2 (P := P) hS hlo hhi (b := true) (cap := 0) el eh (by omega) (by omega) (by omega)
    refine pvI hS hd (x := .slice none 0 0) ?_ (by simp [Rel]) hK
    simp [execOp, he, rx, Instr.sliceAt, Instr.slice, run_underlying hu, hb, run_sizeOf hie]
  · -- memory that lasts
    rename_i e cs len
    obtain rfl := hmn rfl
    obtain ⟨hie, h⟩ := h
    simp only [Rel] at rx
    obtain ⟨ad, cap, hp, hcap, hc⟩ := rx
    unfold dSliceV at h
    split at h <;> try exact h.elim
    rename_i lo' hi' el eh
    obtain ⟨h0, h1, h2, hK⟩ := h
    have hb := run_bounds2 (P := P) hS hlo hhi (b := true) (cap := cap) el eh h0 h1 (by omega)
    refine pvI hS hd (x := .slice (if cap = lo'.toNat then ad else ad.map (·.add (lo'.toNat * P.cellsOf e))) (hi'.toNat - lo'.toNat) (cap - lo'.toNat)) ?_ ?_ hK
    · simp [execOp, he, hp, Instr.sliceAt, Instr.slice, run_underlying hu, hb, run_sizeOf hie]
    · simp only [Rel]
      refine ⟨_, _, rfl, by omega, ?_⟩
      by_cases hcl : cap = lo'.toNat
      · have : hi'.toNat - lo'.toNat = 0 := by omega
        rw [this]; exact .inl (by simp)
      · rw [if_neg hcl]
        rcases hc with rfl | ⟨b, o', xs, rfl, hc, hl⟩
        · exact .inl (by simp)
        · refine .inr ⟨b, o' + lo'.toNat * P.cellsOf e, (xs.drop (lo'.toNat * P.cellsOf e)).take ((hi'.toNat - lo'.toNat) * P.cellsOf e), by simp [add_lit], ?_, (hl.drop _).take _⟩
          rcases hc with rfl | ⟨g1, g2⟩
          · exact .inl (by simp)
          · exact .inr ⟨g1, (Holds.drop g2).take⟩
  · -- a slice of the call's own
    rename_i e sz r0 off len lo0
    obtain rfl := hmn rfl
    obtain ⟨hie, rfl, h⟩ := h
    simp only [Rel] at rx
    obtain ⟨o', cap, hp, hlo0, hcap, hoff, hroom⟩ := rx
    unfold dSliceO at h
    split at h <;> try exact h.elim
    rename_i lo' hi' mx' el eh em
    cases em
    obtain ⟨h0, h1, h2, h3, hK⟩ := h
    have hb := run_bounds2 (P := P) hS hlo hhi (b := true) (cap := cap) el eh h0 h1 (by omega)
    refine pvI hS hd (x := .slice (if cap = lo'.toNat then some ⟨r0, o', none⟩ else some ⟨r0, o' + lo'.toNat * P.cellsOf e, none⟩) (hi'.toNat - lo'.toNat) (cap - lo'.toNat)) ?_ ?_ hK
    · simp [execOp, he, hp, Instr.sliceAt, Instr.slice, run_underlying hu, hb, run_sizeOf hie, add_lit]
    · simp only [Rel]
      have hsub : (cap - lo'.toNat) * P.cellsOf e + lo'.toNat * P.cellsOf e = cap * P.cellsOf e := by
        rw [← Nat.add_mul]; congr 1; omega
      by_cases hcl : cap = lo'.toNat
      · exact ⟨o', cap - lo'.toNat, by simp [hcl], by omega, by omega, .inl (by omega), hroom.le (by omega)⟩
      · refine ⟨o' + lo'.toNat * P.cellsOf e, cap - lo'.toNat, by simp [hcl], by omega, by omega, .inr ?_, hroom.le (by omega)⟩
        rcases hoff with e1 | e1
        · omega
        · rw [e1]
  · -- a slice of the call's own, with a third index
    rename_i e sz r0 off len lo0 m
    obtain ⟨hie, rfl, hhs, h⟩ := h
    simp only [Rel] at rx
    obtain ⟨o', cap, hp, hlo0, hcap, hoff, hroom⟩ := rx
    unfold dSliceO at h
    split at h <;> try exact h.elim
    rename_i lo' hi' mx' el eh em
    obtain ⟨h0, h1, h2, h3, hK⟩ := h
    have hhn : hi ≠ none := by rintro rfl; simp [devO] at hhs
    have hmn' : mx ≠ none := by rintro rfl; simp [devO] at hm
    have hb := run_bounds3 (P := P) hS hlo hhi hmx (b := true) (len := len) (cap := cap) el hhn hmn' eh (by rw [hm]; exact em) h0 h1 h2 (by omega)
    refine pvI hS hd (x := .slice (if mx'.toNat = lo'.toNat then some ⟨r0, o', none⟩ else some ⟨r0, o' + lo'.toNat * P.cellsOf e, none⟩) (hi'.toNat - lo'.toNat) (mx'.toNat - lo'.toNat)) ?_ ?_ hK
    · simp [execOp, he, hp, Instr.sliceAt, Instr.slice, run_underlying hu, hb, run_sizeOf hie, add_lit]
    · simp only [Rel]
      have hsub : (mx'.toNat - lo'.toNat) * P.cellsOf e + lo'.toNat * P.cellsOf e = mx'.toNat * P.cellsOf e := by
        rw [← Nat.add_mul]; congr 1; omega
      have hmc : mx'.toNat * P.cellsOf e ≤ cap * P.cellsOf e := Nat.mul_le_mul_right _ (by omega)
      by_cases hcl : mx'.toNat = lo'.toNat
      · exact ⟨o', mx'.toNat - lo'.toNat, by simp [hcl], by omega, by omega, .inl (by omega), hroom.le (by omega)⟩
      · refine ⟨o' + lo'.toNat * P.cellsOf e, mx'.toNat - lo'.toNat, by simp [hcl], by omega, by omega, .inr ?_, hroom.le (by omega)⟩
        rcases hoff with e1 | e1
        · omega
        · rw [e1]
  · -- an array of the call's own
    rename_i n e r0 off
    obtain rfl := hmn rfl
    obtain ⟨hie, hrm, h⟩ := h
    simp only [Rel] at rx
    have hroom : Room w r0 (off + n * P.cellsOf e) := by
      cases hh : s.heap r0 with
      | none => rw [hh] at hrm; exact hrm.elim
      | some ob =>
        cases ob with
        | loop => rw [hh] at hrm; exact hrm.elim
        | iter => rw [hh] at hrm; exact hrm.elim
        | map => rw [hh] at hrm; exact hrm.elim
        | cells cs e' =>
          rw [hh] at hrm
          obtain ⟨xs, c, fz, g1, g2, g3, g4⟩ := hS.heap r0 _ hh
          refine ⟨hS.heap.lt (by simp [hh]), fun k hk => ?_⟩
          rw [g1] at hk
          simp [csize] at hk
          have := g3.length
          have := g2.length_le
          simp only [Array.length_toList] at this
          simp only [dRoom] at hrm
          omega
    unfold dSliceO at h
    split at h <;> try exact h.elim
    rename_i lo' hi' mx' el eh em
    cases em
    obtain ⟨h0, h1, h2, h3, hK⟩ := h
    have hb := run_bounds2 (P := P) hS hlo hhi (b := false) (cap := n) el eh h0 h1 h2
    refine pvI hS hd (x := .slice (some (if n = lo'.toNat then ⟨r0, off, none⟩ else ⟨r0, off + lo'.toNat * P.cellsOf e, none⟩)) (hi'.toNat - lo'.toNat) (n - lo'.toNat)) ?_ ?_ hK
    · simp [execOp, he, rx, Instr.sliceAt, run_underlying hu, Instr.sureAddr, hb, run_sizeOf hie, add_lit]
    · simp only [Rel]
      have hsub : (n - lo'.toNat) * P.cellsOf e + lo'.toNat * P.cellsOf e = n * P.cellsOf e := by
        rw [← Nat.add_mul]; congr 1; omega
      by_cases hcl : n = lo'.toNat
      · exact ⟨off, n - lo'.toNat, by simp [hcl], by omega, by omega, .inl (by omega), hroom.le (by omega)⟩
      · exact ⟨off + lo'.toNat * P.cellsOf e, n - lo'.toNat, by simp [hcl], by omega, by omega, .inr rfl, hroom.le (by omega)⟩
  · -- an array in memory that lasts
    rename_i n e cs off
    obtain rfl := hmn rfl
    obtain ⟨hie, hle, h⟩ := h
    simp only [Rel] at rx
    obtain ⟨b, o', xs, hp, hc, hl⟩ := rx
    unfold dSliceV at h
    split at h <;> try exact h.elim
    rename_i lo' hi' el eh
    obtain ⟨h0, h1, h2, hK⟩ := h
    have hb := run_bounds2 (P := P) hS hlo hhi (b := false) (cap := n) el eh h0 h1 h2
    refine pvI hS hd (x := .slice (some (if n = lo'.toNat then ⟨b, o' + off, none⟩ else ⟨b, o' + off + lo'.toNat * P.cellsOf e, none⟩)) (hi'.toNat - lo'.toNat) (n - lo'.toNat)) ?_ ?_ hK
    · simp [execOp, he, hp, Instr.sliceAt, run_underlying hu, Instr.sureAddr, hb, run_sizeOf hie, add_lit]
    · simp only [Rel]
      refine ⟨_, _, rfl, by omega, ?_⟩
      by_cases hcl : n = lo'.toNat
      · have : hi'.toNat - lo'.toNat = 0 := by omega
        rw [this]; exact .inl (by simp)
      · rw [if_neg hcl]
        refine .inr ⟨b, o' + off + lo'.toNat * P.cellsOf e, ((((xs.drop off).take (n * P.cellsOf e)).drop (lo'.toNat * P.cellsOf e)).take ((hi'.toNat - lo'.toNat) * P.cellsOf e)), rfl, ?_, (((hl.drop _).take _).drop _).take _⟩
        rcases hc with rfl | ⟨g1, g2⟩
        · exact .inl (by simp)
        · exact .inr ⟨g1, (Holds.drop (Holds.take (Holds.drop g2))).take⟩
  · exact h.elim

end
end Go.Dl

-- THE DATA LEVEL, PART T: further operations: type assertions, built-in functions, calls.
namespace Go.Dl
open Go

section
variable {P : Program} {G : Nat → DVal} {N : Fr}
variable {o : Oper} {s : DS} {a : Act} {w : World} {K : DK} {Q : DExit → DS → Prop} {Qx : Exit → Act → World → Prop}

theorem notIface_some {t : TypeId} (h : notIface (P.underlying t) = true) : ∃ d, P.underlying t = some d ∧ ∀ m, d ≠ .interface m := by
  cases hu : P.underlying t with
  | none => rw [hu] at h; cases h
  | some d => refine ⟨d, rfl, fun m e => ?_⟩; rw [hu, e] at h; cases h

theorem s_typeAssert (hS : Sim G N s a w) (hd : dstOk N o.dst = true) {x : Operand} {xt t : TypeId} {ok : Bool} (hx : opdOk N x = true) (he : o.op = .typeAssert x xt t ok)
    (h : dTypeAssert P t ok o.dst (notIface (P.underlying t)) (dev G s.env x) K s) : PV P o s a w K := by
  have rx := rel_dev hS hx
  generalize hn : notIface (P.underlying t) = nb at h
  generalize dev G s.env x = dx at h rx
  unfold dTypeAssert at h
  split at h
  · rename_i t0 v0
    obtain ⟨d, hu, hni⟩ := notIface_some hn
    simp only [Rel] at rx
    obtain ⟨y, hp, hy⟩ := rx
    have hrun : (execOp a.eval o).run P w = ((Instr.typeAssert (.iface t0 y) xt t ok).run P w).andThen fun v w' => .ok (.value v) w' := by
      simp [execOp, he, hp]
    have hta : (Instr.typeAssert (.iface t0 y) xt t ok).run P w = if t0 = t then .ok (if ok then .tuple #[y, .bool true] else y) w else ((if ok then (do pure (.tuple #[← zeroValue t, .bool false])) else runtimePanic (.typeAssertion (some xt) (some t0) t "")) : Sem Value).run P w := by
      simp only [Instr.typeAssert, Sem.run_bind, run_underlying hu, Result.andThen_ok]
      cases d <;> first | exact absurd rfl (hni _) | (by_cases e : t0 = t <;> simp [e])
    by_cases e : t0 = t
    · subst e
      simp only [decide_true] at h
      rw [hta, if_pos rfl] at hrun
      cases ok
      · exact pvI hS hd hrun hy h
      · refine pvI hS hd hrun ?_ h
        simp only [Rel]
        exact ⟨_, rfl, by simp only [if_true, RelL, Rel]; exact ⟨_, _, rfl, hy, _, _, rfl, rfl, rfl⟩⟩
    · simp only [e, decide_false] at h
      cases ok
      · exact h.elim
      · simp only [dAssertIs] at h
        cases hz : zeroOf P t with
        | none => rw [hz] at h; exact h.elim
        | some z =>
          rw [hz] at h
          obtain ⟨i, v, hi, hiz, rfl⟩ := zero_info hz
          have hzv : (zeroValue t).run P w = .ok v w := by simp [zeroValue, run_typeInfo hi, hiz]
          rw [hta, if_neg e] at hrun
          refine pvI hS hd (x := .tuple #[v, .bool false]) (by rw [hrun]; simp [hzv]) ?_ h
          simp only [Rel]
          exact ⟨_, rfl, by simp only [RelL, Rel]; exact ⟨_, _, rfl, rel_ofVal w s.heap v, _, _, rfl, rfl, rfl⟩⟩
  · obtain ⟨d, hu, hni⟩ := notIface_some hn
    obtain ⟨rfl, h⟩ := h
    simp only [Rel] at rx
    cases hz : zeroOf P t with
    | none => rw [hz] at h; exact h.elim
    | some z =>
      rw [hz] at h
      obtain ⟨i, v, hi, hiz, rfl⟩ := zero_info hz
      have hzv : (zeroValue t).run P w = .ok v w := by simp [zeroValue, run_typeInfo hi, hiz]
      refine pvI hS hd (x := .tuple #[v, .bool false]) ?_ ?_ h
      · simp only [execOp, he, rx, Instr.typeAssert, Sem.run_bind, run_underlying hu, Result.andThen_ok]
        cases d <;> first | exact absurd rfl (hni _) | simp [hzv]
      · simp only [Rel]
        exact ⟨_, rfl, by simp only [RelL, Rel]; exact ⟨_, _, rfl, rel_ofVal w s.heap v, _, _, rfl, rfl, rfl⟩⟩
  · exact h.elim

-- built-in functions
theorem exec_builtin {c : Call} {b : Builtin} (he : o.op = .call c) (hc : c.callee = .builtin b) :
    execOp a.eval o = builtin b c.argTypes o.type (c.args.map fun | .const _ => true | _ => false) (c.args.map a.eval) := by
  simp only [execOp, he, resolve, hc]
  rfl

theorem devs_one {xs : List Operand} {d : DVal} (h : devs G s.env xs = [d]) : ∃ x, xs = [x] ∧ dev G s.env x = d := by
  cases xs with
  | nil => simp [devs] at h
  | cons x xs => cases xs with
    | nil => simp [devs] at h; exact ⟨x, rfl, h⟩
    | cons y ys => simp [devs] at h
theorem devs_two {xs : List Operand} {d e : DVal} (h : devs G s.env xs = [d, e]) : ∃ x y, xs = [x, y] ∧ dev G s.env x = d ∧ dev G s.env y = e := by
  cases xs with
  | nil => simp [devs] at h
  | cons x xs => cases xs with
    | nil => simp [devs] at h
    | cons y ys => cases ys with
      | nil => simp [devs] at h; exact ⟨x, y, rfl, h.1, h.2⟩
      | cons z zs => simp [devs] at h

theorem s_len (hS : Sim G N s a w) (hd : dstOk N o.dst = true) {c : Call} {x : Operand} (hx : opdOk N x = true) (he : o.op = .call c) (hc : c.callee = .builtin .len) (hargs : c.args.toList = [x]) {t : TypeId} (hts : c.argTypes.toList = [t])
    (h : dLen o.dst (P.underlying t) (dev G s.env x) K s) : PV P o s a w K := by
  have rx := rel_dev hS hx
  have hm : c.args.map a.eval = #[a.eval x] := by apply Array.ext'; simp [hargs]
  have hex := exec_builtin (a := a) he hc
  rw [hm] at hex
  have ht' : c.argTypes[0]? = some t := by rw [← Array.getElem?_toList, hts]; rfl
  generalize hu : P.underlying t = u at h
  generalize dev G s.env x = dx at h rx
  unfold dLen at h
  split at h
  · simp only [Rel] at rx
    exact pv_int hS hd (by rw [hex]; simp [builtin, Builtin.len_, ht', run_underlying hu, rx, goInt]; rfl) h
  · exact pv_int hS hd (by rw [hex]; simp [builtin, Builtin.len_, ht', run_underlying hu, goInt]) h
  · simp only [Rel] at rx
    exact pv_int hS hd (by rw [hex]; simp [builtin, Builtin.len_, ht', run_underlying hu, rx, goInt]) h
  · simp only [Rel] at rx
    obtain ⟨_, _, rx, _⟩ := rx
    exact pv_int hS hd (by rw [hex]; simp [builtin, Builtin.len_, ht', run_underlying hu, rx, goInt]) h
  · simp only [Rel] at rx
    obtain ⟨_, _, rx, _⟩ := rx
    exact pv_int hS hd (by rw [hex]; simp [builtin, Builtin.len_, ht', run_underlying hu, rx, goInt]) h
  · exact h.elim

theorem minMaxL_rel {H : DHeap} (isMax : Bool) : ∀ (ys : List DVal) (vs : List Value) (x : DVal) (v : Value) (r : DVal), RelL w H ys vs → Rel w H x v → dMinMaxL isMax (some x) ys = some r →
    ∃ u, (vs.foldlM (if isMax then Builtin.max2 else Builtin.min2) v).run P w = .ok u w ∧ Rel w H r u
  | [], vs, x, v, r, hl, hx, h => by
    simp only [RelL] at hl; subst hl
    simp only [dMinMaxL] at h; cases h
    exact ⟨v, by simp, hx⟩
  | y :: ys, vs, x, v, r, hl, hx, h => by
    simp only [RelL] at hl
    obtain ⟨u, us, rfl, hy, hl⟩ := hl
    simp only [dMinMaxL] at h
    cases hm : dMM isMax x y with
    | none => rw [hm] at h; cases ys <;> cases h
    | some z =>
      rw [hm] at h
      unfold dMM at hm
      split at hm <;> try (cases hm; done)
      rename_i k m k' n
      simp only [Rel] at hx hy
      subst hx; subst hy
      cases hm
      obtain ⟨q, hq, hr⟩ := minMaxL_rel isMax ys us _ (.int k (if isMax then (if n > m then n else m) else (if n < m then n else m))) r hl (by simp [Rel]) h
      refine ⟨q, ?_, hr⟩
      cases isMax
      · simpa [Builtin.min2] using hq
      · simpa [Builtin.max2] using hq

theorem s_minmax (hS : Sim G N s a w) (hd : dstOk N o.dst = true) {c : Call} {isMax : Bool} (hx : c.args.toList.all (opdOk N) = true) (he : o.op = .call c) (hc : c.callee = .builtin (if isMax then .max else .min))
    (h : dputO o.dst (dMinMax isMax (devs G s.env c.args.toList)) K s) : PV P o s a w K := by
  have rl := rel_devs hS hx
  have hex := exec_builtin (a := a) he hc
  obtain ⟨d, hd', hK⟩ := dputO_some h
  have hm : (c.args.map a.eval).toList = c.args.toList.map a.eval := by simp
  generalize hvs : c.args.toList.map a.eval = vs at rl hm
  generalize devs G s.env c.args.toList = ds at rl hd'
  cases ds with
  | nil => cases hd'
  | cons x rest =>
    simp only [RelL] at rl
    obtain ⟨v, us, rfl, hx', hl⟩ := rl
    simp only [dMinMax] at hd'
    obtain ⟨u, hu, hr⟩ := minMaxL_rel (P := P) isMax rest us x v d hl hx' hd'
    refine pvI hS hd ?_ hr hK
    rw [hex]
    cases isMax
    · simp at hu
      simp only [builtin, Builtin.min_, hm, Bool.false_eq_true, if_false, Sem.run_bind, hu, Result.andThen_ok, Sem.run_pure]
    · simp at hu
      simp only [builtin, Builtin.max_, hm, if_true, Sem.run_bind, hu, Result.andThen_ok, Sem.run_pure]

theorem s_panic {x : DVal} {v : Value} (hS : Sim G N s a w) (hrun : (execOp a.eval o).run P w = ((Instr.panic v).run P w).andThen fun v w' => .ok (.value v) w') (hv : Rel w s.heap x v) (h : dPanic Q s x) {next : Act → World → Prop} : o.wp P a w next (ExitS G N Q s w) := by
  unfold dPanic at h
  split at h <;> try exact h.elim
  have hv' := hv
  simp only [Rel] at hv
  obtain ⟨y, rfl, hy⟩ := hv
  unfold Oper.wp
  rw [hrun]
  simp only [Instr.panic, goPanic, Sem.run_halt, Result.andThen_halt]
  exact ⟨_, s, h, .panic _ _ hv', hS, Ext.refl _ _⟩


end
end Go.Dl

-- THE DATA LEVEL, PART U: append.
namespace Go.Dl
open Go

section
variable {P : Program} {G : Nat → DVal} {N : Fr}
variable {o : Oper} {s : DS} {a : Act} {w : World} {K : DK} {Q : DExit → DS → Prop} {Qx : Exit → Act → World → Prop}

/-- What is appended: its length, its cells, whatever the count of draws. -/
def Source (P : Program) (w : World) (size : Nat) (x : Value) (n : Nat) (vs : List Value) : Prop :=
  (Builtin.lenOf x).run P w = .ok n w ∧ ∀ k, (Builtin.firstCells size n x).run P { w with drawn := k } = .ok vs.toArray { w with drawn := k }

theorem holds_drawn {b off k : Nat} {xs : List Value} (h : Holds w b off xs) : Holds { w with drawn := k } b off xs := h

theorem source_rel {size : Nat} {y : DVal} {v : Value} {H : DHeap} (hH : SimHeap w H) (hv : Rel w H y v) {n : Nat} {news : List DVal} (hs : srcCells size H y = some (n, news)) (hl : news.length = n * size) :
    ∃ vs, Source P w size v n vs ∧ RelL w H news vs := by
  unfold srcCells at hs
  split at hs
  · cases hs
    simp only [Rel] at hv; subst hv
    exact ⟨[], ⟨by simp [Builtin.lenOf], fun k => by simp [Builtin.firstCells]⟩, by simp [RelL]⟩
  · cases hs
    simp only [Rel] at hv
    obtain ⟨ad, cap, rfl, _, hc⟩ := hv
    rcases hc with rfl | ⟨b, o', xs, rfl, hc, hr⟩
    · have hz : n * size = 0 := by simpa using hl.symm
      refine ⟨[], ⟨by simp [Builtin.lenOf], fun k => ?_⟩, by simp [RelL]⟩
      cases ad with
      | none => simp [Builtin.firstCells]
      | some ad =>
        simp [Builtin.firstCells, hz, loadCells, loadCellsFrom]
    · refine ⟨xs.take (n * size), ⟨by simp [Builtin.lenOf], fun k => ?_⟩, hr.take _⟩
      have hlx := hr.length
      have hlen : (xs.take (n * size)).length = n * size := by
        simp only [List.length_take] at hl ⊢; omega
      have := run_loadCells_holds (P := P) (w := { w with drawn := k }) (Holds.take (n := n * size) (holds_drawn hc.holds))
      rw [hlen] at this
      simpa [Builtin.firstCells] using this
  · rename_i sz r off n' lo
    unfold srcCellsO at hs
    split at hs <;> try (cases hs; done)
    rename_i cs e hh
    cases hs
    simp only [Rel] at hv
    obtain ⟨o', cap, rfl, _, hcap, hoff, _⟩ := hv
    obtain ⟨xs, hr, hho⟩ := hH.holds hh
    by_cases hc0 : cap = 0
    · have hn : n = 0 := by omega
      subst hn
      refine ⟨[], ⟨by simp [Builtin.lenOf], fun k => by simp [Builtin.firstCells, loadCells, loadCellsFrom]⟩, ?_⟩
      simp [RelL]
    · have : o' = off := hoff.resolve_left hc0
      subst this
      refine ⟨(xs.drop o').take (n * size), ⟨by simp [Builtin.lenOf], fun k => ?_⟩, (hr.drop _).take _⟩
      have hlx := hr.length
      have hlen : ((xs.drop o').take (n * size)).length = n * size := by
        simp only [List.length_take, List.length_drop] at hl ⊢; omega
      have h1 : Holds w r o' (xs.drop o') := by simpa using hho.drop (n := o')
      have := run_loadCells_holds (P := P) (w := { w with drawn := k }) (Holds.take (n := n * size) (holds_drawn h1))
      rw [hlen] at this
      simpa [Builtin.firstCells] using this
  · rename_i l
    cases hs
    simp only [Rel] at hv; subst hv
    have hsz : (ByteArray.mk ⟨l⟩).size = l.length := rfl
    refine ⟨l.map fun b => .int .u8 b.toNat, ⟨by simp [Builtin.lenOf, hsz], fun k => ?_⟩, ?_⟩
    · simp [Builtin.firstCells]
    · refine RelL.mk (by simp) fun i d x h1 h2 => ?_
      simp only [List.getElem?_map, Option.map_eq_some_iff] at h1 h2
      obtain ⟨b1, e1, rfl⟩ := h1
      obtain ⟨b2, e2, rfl⟩ := h2
      rw [e1] at e2; cases e2
      simp [Rel]
  · cases hs

variable {t t' e : TypeId} {ty : TypeId} {i : TypeInfo} {z : Value} {u : TypeDesc}

/-- append where there is no room: a new row. -/
theorem run_append_new (ht : P.underlying t = some (.slice e)) (hu : P.underlying t' = some u) (hu' : (∃ e', u = .slice e') ∨ u = .string) (hi : P.info? e = some i) (hz : i.zero = some z)
    {b : Option Addr} {len cap n : Nat} {x : Value} {vs : List Value} (hsrc : Source P w i.size x n vs) (hg : cap < len + n) (hfit : (len + n) * i.bytes ≤ 35184372088832) (hbytes : (len + n : Nat) ≤ 35184372088832)
    {olds : List Value} (ho : ∀ k, (Builtin.firstCells i.size len (.slice b len cap)).run P { w with drawn := k } = .ok olds.toArray { w with drawn := k }) :
    ∃ c, len + n ≤ c ∧ (Builtin.append_ #[t, t'] ty #[.slice b len cap, x]).run P w =
      .ok (.slice (some ⟨w.heap.size, 0, none⟩) (len + n) c) { w.alloc (.cells (olds.toArray ++ (vs.toArray ++ Builtin.zeroCells z.cells (c - (len + n)))) e) with drawn := w.drawn + 1 } := by
  obtain ⟨hlen, hcells⟩ := hsrc
  refine ⟨(Question.appendCap (len + n) cap e).cut (w.tape w.drawn (.appendCap (len + n) cap e)), by simp [Question.cut], ?_⟩
  have hn : ¬ (len + n ≤ cap) := by omega
  have h48 : ¬ (Builtin.nextslicecap (len + n) cap * i.bytes > 281474976710656) := by
    have := growslice_fits (need := len + n) (old := cap) (bytes := i.bytes) hg (by omega)
    omega
  have hc1 := hcells (w.drawn + 1)
  have ho1 := ho (w.drawn + 1)
  have h63 : ¬ (9223372036854775807 < ((len : Int) + (n : Int))) := by omega
  simp only [World.drew_eq] at hc1 ho1
  rcases hu' with ⟨e', rfl⟩ | rfl
  · simp [Builtin.append_, run_underlying ht, run_underlying hu, sizeOf, typeInfo, zeroValue, hi, hz, hlen, hn, h48, h63, Question.forced, hc1, ho1, newRow]
    rfl
  · simp [Builtin.append_, run_underlying ht, run_underlying hu, sizeOf, typeInfo, zeroValue, hi, hz, hlen, hn, h48, h63, Question.forced, hc1, ho1, newRow]
    rfl

/-- append where there is room: in place. -/
theorem run_append_in (ht : P.underlying t = some (.slice e)) (hu : P.underlying t' = some u) (hu' : (∃ e', u = .slice e') ∨ u = .string) (hi : P.info? e = some i)
    {b : Option Addr} {len cap n : Nat} {x : Value} {vs : List Value} (hsrc : Source P w i.size x n vs) (hg : len + n ≤ cap) {w' : World}
    (hst : (match b with | some ad => storeCells (ad.add (len * i.size)) vs 0 | none => pure ()).run P w = .ok () w') :
    (Builtin.append_ #[t, t'] ty #[.slice b len cap, x]).run P w = .ok (.slice b (len + n) cap) w' := by
  obtain ⟨hlen, hcells⟩ := hsrc
  have hc1 := hcells w.drawn
  have hw : { w with drawn := w.drawn } = w := rfl
  rw [hw] at hc1
  rcases hu' with ⟨e', rfl⟩ | rfl
  · cases b with
    | none => simp at hst; subst hst; simp [Builtin.append_, run_underlying ht, run_underlying hu, sizeOf, typeInfo, hi, hlen, hg, hc1]
    | some ad => simp at hst; simp [Builtin.append_, run_underlying ht, run_underlying hu, sizeOf, typeInfo, hi, hlen, hg, hc1, hst]
  · cases b with
    | none => simp at hst; subst hst; simp [Builtin.append_, run_underlying ht, run_underlying hu, sizeOf, typeInfo, hi, hlen, hg, hc1]
    | some ad => simp at hst; simp [Builtin.append_, run_underlying ht, run_underlying hu, sizeOf, typeInfo, hi, hlen, hg, hc1, hst]

theorem notInt_cases {u : Option TypeDesc} (h : notInt u = true) : ∃ d, u = some d ∧ ((∃ e', d = .slice e') ∨ d = .string) := by
  cases u with
  | none => cases h
  | some d => cases d <;> first | (exact ⟨_, rfl, .inl ⟨_, rfl⟩⟩) | (exact ⟨_, rfl, .inr rfl⟩) | (cases h; done)

/-- A block of the call's own, grown in place: its first cells stay, new ones follow, over spare room. -/
theorem store_grow {H : DHeap} (hH : SimHeap w H) {r p : Nat} {cs ds : List DVal} {e : TypeId} (hr : H r = some (.cells cs e)) {vs : List Value} (hv : RelL w H ds vs) (h1 : ds.all (·.one) = true) (hp : p ≤ cs.length)
    (hroom : ∀ c fz, w.heap[r]? = some (.cells c e fz) → p + ds.length ≤ c.size) {cs' : List DVal} (hcs : cs' = cs.take p ++ ds) :
    ∃ w', (storeCells ⟨r, p, none⟩ vs 0).run P w = .ok () w' ∧ SimHeap w' (upd (upd H r none) r (some (.cells cs' e))) ∧ Ext H w (upd (upd H r none) r (some (.cells cs' e))) w' := by
  subst hcs
  obtain ⟨xs, c, fz, g1, g2, g3, g4⟩ := hH r _ hr
  obtain ⟨tl, htl⟩ := g2
  have hlx := g3.length
  have hlv := hv.length
  have hcs : c.size = xs.length + tl.length := by rw [← Array.length_toList, ← htl]; simp
  have hrm := hroom c fz g1
  obtain ⟨w', c', hrun, hheap, hlist, hother, hsize, hos, htape, hout⟩ := run_storeCells_own (P := P) r p e fz vs 0 c w g1 (by omega) (relL_one hv h1) g4
  have hcsz : c'.size = c.size := by
    rw [← Array.length_toList, hlist]; simp; omega
  have hupd : upd (upd H r none) r (some (.cells (cs.take p ++ ds) e)) = upd H r (some (.cells (cs.take p ++ ds) e)) := by
    funext j; simp only [upd]; split <;> rfl
  rw [hupd]
  have hE : Ext H w (upd H r (some (.cells (cs.take p ++ ds) e))) w' := by
    refine ⟨hos, htape, hout, by omega, fun b hb hn => hother b (fun hbr => by subst hbr; rw [hr] at hn; cases hn), fun b hb => ?_, fun b hb => ?_, fun a _ _ => by
      unfold World.frozen?
      by_cases hbr : a.block = r
      · rw [hbr, hheap, g1]
      · rw [hother _ hbr]⟩
    · by_cases hbr : b = r
      · subst hbr; exact .inl (by rw [hr]; simp)
      · simp only [upd, if_neg hbr] at hb; exact .inl hb
    · by_cases hbr : b = r
      · subst hbr; rw [hheap, g1]; simp [csize, hcsz]
      · rw [hother b hbr]
  refine ⟨w', hrun, fun r' o' ho' => ?_, hE⟩
  by_cases hbr : r' = r
  · subst hbr
    simp only [upd, if_pos] at ho'
    cases ho'
    refine ⟨xs.take p ++ vs, c', fz, hheap, ?_, (RelL.lasts hE.lasts _ _ (g3.take p)).append (RelL.lasts hE.lasts _ _ hv), by rw [hcsz]; exact g4⟩
    refine ⟨c.toList.drop (p + 0 + vs.length), ?_⟩
    rw [hlist, ← htl, Nat.add_zero, List.take_append_of_le_length (by omega)]
  · simp only [upd, if_neg hbr] at ho'
    rw [hother r' hbr]
    exact (hH r' o' ho').lasts hE.lasts

/-- A block is let go. -/
theorem SimHeap.letGo {H : DHeap} (hH : SimHeap w H) (r : Nat) : SimHeap w (upd H r none) := by
  have hl : Lasts H w (upd H r none) w := ⟨fun b i x hb hc => ⟨by simp only [upd]; split; rfl; exact hb, hc⟩, Nat.le_refl _, fun _ _ => rfl⟩
  intro r' o' ho'
  by_cases hbr : r' = r
  · subst hbr; simp [upd] at ho'
  · simp only [upd, if_neg hbr] at ho'
    exact (hH r' o' ho').lasts hl

theorem ext_letGo {H : DHeap} (r : Nat) : Ext H w (upd H r none) w :=
  ⟨rfl, rfl, rfl, Nat.le_refl _, fun _ _ _ => rfl, fun b hb => .inl (by simp only [upd] at hb; split at hb <;> simp_all), fun _ _ => rfl, fun _ _ _ => rfl⟩

theorem firstCells_none (size : Nat) (k : Nat) : (Builtin.firstCells size 0 (.slice none 0 0)).run P { w with drawn := k } = .ok #[] { w with drawn := k } := by simp [Builtin.firstCells]

theorem prefix_app {α : Type} (l m : List α) : l <+: l ++ m := ⟨m, rfl⟩

theorem s_append (hS : Sim G N s a w) (hd : dstOk N o.dst = true) {c : Call} {x y : Operand} (hx : opdOk N x = true) (hy : opdOk N y = true) (he : o.op = .call c) (hc : c.callee = .builtin .append) (hargs : c.args.toList = [x, y]) {t t' : TypeId} (htys : c.argTypes.toList = [t, t'])
    (h : dAppend P (notInt (P.underlying t')) (dev G s.env x) (dev G s.env y) o.dst (P.underlying t) K s) : o.wp P a w (NextS G N K s w) Qx := by
  have rx := rel_dev hS hx
  have ry := rel_dev hS hy
  have hm : c.args.map a.eval = #[a.eval x, a.eval y] := by apply Array.ext'; simp [hargs]
  have hat : c.argTypes = #[t, t'] := by apply Array.ext'; simp [htys]
  have hex : execOp a.eval o = (do pure (.value (← Builtin.append_ #[t, t'] o.type #[a.eval x, a.eval y]))) := by
    rw [exec_builtin he hc, hm, hat]; rfl
  generalize hut : P.underlying t = ut at h
  unfold dAppend at h
  split at h <;> try exact h.elim
  rename_i e
  obtain ⟨hni, hzs, hzc, hpos, hbpos, h⟩ := h
  obtain ⟨u, hu, hu'⟩ := notInt_cases hni
  obtain ⟨zd, hz⟩ := Option.isSome_iff_exists.1 hzs
  rw [hz] at hzc
  simp only [Option.all_some, decide_eq_true_eq] at hzc
  obtain ⟨i, z, hi, hiz, rfl⟩ := zero_info hz
  have hcsz : P.cellsOf e = i.size := by simp [Program.cellsOf, hi]
  have hbsz : P.bytesOf e = i.bytes := by simp [Program.bytesOf, hi]
  have hzlen : z.cells.size = i.size := by
    have := (cells_rel (rel_ofVal w s.heap z)).length
    rw [← hcsz, ← hzc, this]; simp
  rw [hcsz, hbsz] at h
  rw [hcsz] at hpos
  rw [hbsz] at hbpos
  cases hsc : srcCells i.size s.heap (dev G s.env y) with
  | none => rw [hsc] at h; exact h.elim
  | some nn =>
    obtain ⟨n, news⟩ := nn
    rw [hsc] at h
    obtain ⟨hnl, hone, h⟩ := h
    obtain ⟨vs, hsrc, hrel⟩ := source_rel (P := P) hS.heap ry hsc hnl
    have hvl := hrel.length
    generalize dev G s.env x = dx at h rx
    unfold dAppendTo at h
    split at h
    · -- nil
      obtain ⟨h0, h1⟩ := h
      simp only [Rel] at rx
      by_cases hn : n = 0
      · have hK := h0 hn
        subst hn
        have hvs : vs = [] := List.length_eq_zero_iff.1 (by omega)
        subst hvs
        have hrun := run_append_in (ty := o.type) (b := none) (len := 0) (cap := 0) hut hu hu' hi hsrc (by omega) (w' := w) (by simp)
        refine op_value hS hd (x := .slice none 0 0) ?_ (by simp [Rel]) hK
        rw [hex, rx]; simp [hrun]
      · obtain ⟨hfit, hK⟩ := h1 hn
        have hn45 : n ≤ 35184372088832 := Nat.le_trans (Nat.le_mul_of_pos_right n hbpos) hfit
        obtain ⟨cp, hcp, hrun⟩ := run_append_new (ty := o.type) (b := none) (len := 0) (cap := 0) (olds := []) hut hu hu' hi hiz hsrc (by omega) (by simpa using hfit) (by omega) (fun k => firstCells_none i.size k)
        refine op_newS hS hd (sz := i.size) (lo := n) (cap := cp) (n := w.drawn + 1) (len := n) (e := e) (c := #[] ++ (vs.toArray ++ Builtin.zeroCells z.cells (cp - (0 + n)))) (by omega) (by omega) ?_ ?_ hrel ?_ hK
        · simp only [Array.size_append, size_zeroCells, hzlen, List.size_toArray, List.length_nil, Nat.zero_add]
          have : vs.length = n * i.size := by omega
          rw [this, ← Nat.add_mul]
          exact Nat.mul_le_mul_right _ (by omega)
        · rw [hex, rx]
          simp only [Nat.zero_add] at hrun
          simp [hrun]
        · simp only [Array.toList_append, List.nil_append]
          exact prefix_app _ _
    · -- a slice of the call's own
      rename_i sz r off len lo
      obtain ⟨rfl, h⟩ := h
      simp only [Rel] at rx
      obtain ⟨o', cap, hp, hlo, hcap, hoff, hroom⟩ := rx
      cases hh : s.heap r with
      | none => rw [hh] at h; exact h.elim
      | some ob =>
        cases ob with
        | loop => rw [hh] at h; exact h.elim
        | iter => rw [hh] at h; exact h.elim
        | map => rw [hh] at h; exact h.elim
        | cells cs e' =>
          rw [hh] at h
          obtain ⟨rfl, hin, hout⟩ := h
          by_cases hle : len + n ≤ lo
          · -- in place, within what is known
            obtain ⟨hfits, hK⟩ := hin hle
            have hmul : (len + n) * i.size = len * i.size + n * i.size := Nat.add_mul _ _ _
            by_cases hc0 : cap = 0
            · have hl0 : len = 0 := by omega
              have hn0 : n = 0 := by omega
              subst hl0; subst hn0
              have hvs : vs = [] := List.length_eq_zero_iff.1 (by omega)
              have hns : news = [] := List.length_eq_zero_iff.1 (by omega)
              subst hvs; subst hns
              have hrun := run_append_in (ty := o.type) (b := some ⟨r, o', none⟩) (len := 0) (cap := cap) hut hu hu' hi hsrc (by omega) (w' := w) (by simp [storeCells])
              have hsp : splice cs (off + 0 * i.size) [] = cs := by simp [splice]
              have hup : upd s.heap r (some (.cells (splice cs (off + 0 * i.size) []) e')) = s.heap := by
                funext j; rw [hsp]; simp only [upd]; split
                · rename_i hj; rw [hj, hh]
                · rfl
              rw [hup] at hK
              refine op_value hS hd (x := .slice (some ⟨r, o', none⟩) 0 cap) ?_ ?_ hK
              · rw [hex, hp]; simp [hrun]
              · simp only [Rel]; exact ⟨o', cap, rfl, hlo, by omega, hoff, hroom⟩
            · have : o' = off := hoff.resolve_left hc0
              subst this
              obtain ⟨w', hst, hH, hE⟩ := store_own (P := P) hS.heap hh hrel hone (off := o' + len * i.size) (by omega)
              have hrun := run_append_in (ty := o.type) (b := some ⟨r, o', none⟩) (len := len) (cap := cap) hut hu hu' hi hsrc (by omega) (w' := w') (by simpa [add_lit] using hst)
              refine op_world hS hd (x := .slice (some ⟨r, o', none⟩) (len + n) cap) ?_ hE hH ?_ hK
              · rw [hex, hp]; simp [hrun]
              · simp only [Rel]; exact ⟨o', cap, rfl, hlo, by omega, .inr rfl, hE.lasts.room hroom⟩
          · -- the room is not known
            obtain ⟨hfits, hfit, hK⟩ := hout hle
            have hn45 : len + n ≤ 35184372088832 := Nat.le_trans (Nat.le_mul_of_pos_right _ hbpos) hfit
            obtain ⟨xs, hxr, hxh⟩ := hS.heap.holds hh
            have hxl := hxr.length
            by_cases hin' : len + n ≤ cap
            · -- in place
              have : o' = off := hoff.resolve_left (by omega)
              subst this
              have hrm : ∀ c fz, w.heap[r]? = some (.cells c e' fz) → o' + len * i.size + news.length ≤ c.size := by
                intro c fz hcc
                have := hroom.2 c.size (by rw [hcc]; rfl)
                have h2 : (len + n) * i.size ≤ cap * i.size := Nat.mul_le_mul_right _ hin'
                rw [Nat.add_mul] at h2
                omega
              obtain ⟨w', hst, hH, hE⟩ := store_grow (P := P) hS.heap hh hrel hone (p := o' + len * i.size) hfits hrm (cs' := cs.take o' ++ (cs.drop o').take (len * i.size) ++ news) (by rw [List.take_add])
              have hrun := run_append_in (ty := o.type) (b := some ⟨r, o', none⟩) (len := len) (cap := cap) hut hu hu' hi hsrc hin' (w' := w') (by simpa [add_lit] using hst)
              have hK' := hK r (cs.take o') (by simp [upd]) (fun e0 => by simp [e0])
              rw [if_pos (.inr rfl)] at hK'
              have hlt : (cs.take o').length = o' := by simp; omega
              rw [hlt] at hK'
              refine op_world hS hd (x := .slice (some ⟨r, o', none⟩) (len + n) cap) ?_ hE hH ?_ hK'
              · rw [hex, hp]; simp [hrun]
              · simp only [Rel]; exact ⟨o', cap, rfl, by omega, by omega, .inr rfl, hE.lasts.room hroom⟩
            · -- a new row
              have holds : ∃ olds, RelL w s.heap ((cs.drop off).take (len * i.size)) olds ∧ olds.length = len * i.size ∧ ∀ k, (Builtin.firstCells i.size len (.slice (some ⟨r, o', none⟩) len cap)).run P { w with drawn := k } = .ok olds.toArray { w with drawn := k } := by
                by_cases hc0 : cap = 0
                · have hl0 : len = 0 := by omega
                  subst hl0
                  exact ⟨[], by simp [RelL], by simp, fun k => by simp [Builtin.firstCells, loadCells, loadCellsFrom]⟩
                · have : o' = off := hoff.resolve_left hc0
                  subst this
                  have hlen : ((xs.drop o').take (len * i.size)).length = len * i.size := by
                    simp only [List.length_take, List.length_drop]; omega
                  refine ⟨_, (hxr.drop _).take _, hlen, fun k => ?_⟩
                  have h1 : Holds w r o' (xs.drop o') := by simpa using hxh.drop (n := o')
                  have := run_loadCells_holds (P := P) (w := { w with drawn := k }) (Holds.take (n := len * i.size) (holds_drawn h1))
                  rw [hlen] at this
                  simpa [Builtin.firstCells] using this
              obtain ⟨olds, hor, hol, hof⟩ := holds
              obtain ⟨cp, hcp, hrun⟩ := run_append_new (ty := o.type) hut hu hu' hi hiz hsrc (by omega) hfit hn45 hof
              have hfin : ∀ HH : DHeap, SimHeap w HH → Ext s.heap w HH w → K ⟨updO s.env o.dst (.oslice i.size w.heap.size 0 (len + n) (len + n)), upd HH w.heap.size (some (.cells ((cs.drop off).take (len * i.size) ++ news) e'))⟩ → o.wp P a w (NextS G N K s w) Qx := by
                intro HH hH0 hE0 hK'
                have hcont : RelL w HH ((cs.drop off).take (len * i.size) ++ news) (olds ++ vs) :=
                  (RelL.lasts hE0.lasts _ _ hor).append (RelL.lasts hE0.lasts _ _ hrel)
                have hpre : (olds ++ vs) <+: (olds.toArray ++ (vs.toArray ++ Builtin.zeroCells z.cells (cp - (len + n)))).toList := by
                  simp only [Array.toList_append, ← List.append_assoc]
                  exact prefix_app _ _
                have hsize : cp * i.size ≤ (olds.toArray ++ (vs.toArray ++ Builtin.zeroCells z.cells (cp - (len + n)))).size := by
                  simp only [Array.size_append, size_zeroCells, hzlen, List.size_toArray, hol]
                  have h1 : vs.length = n * i.size := by omega
                  rw [h1, ← Nat.add_mul, ← Nat.add_mul]
                  exact Nat.mul_le_mul_right _ (by omega)
                refine op_world hS hd (x := .slice (some ⟨w.heap.size, 0, none⟩) (len + n) cp) ?_ ((hE0.trans (ext_alloc hH0 _ _ _)).drawn (w.drawn + 1)) ((simHeap_alloc hH0 hcont _ hpre e').drawn (w.drawn + 1)) ?_ hK'
                · rw [hex, hp]; simp [hrun]
                · simp only [Rel]
                  refine ⟨0, cp, rfl, by omega, by omega, .inr rfl, ?_⟩
                  constructor
                  · show w.heap.size < (w.alloc _).heap.size
                    simp
                  · intro k hk
                    have h1 : (w.alloc (.cells (olds.toArray ++ (vs.toArray ++ Builtin.zeroCells z.cells (cp - (len + n)))) e')).heap[w.heap.size]? = some (.cells (olds.toArray ++ (vs.toArray ++ Builtin.zeroCells z.cells (cp - (len + n)))) e') := by
                      show (w.heap.push _)[w.heap.size]? = _
                      simp
                    have hk' : csize (w.alloc (.cells (olds.toArray ++ (vs.toArray ++ Builtin.zeroCells z.cells (cp - (len + n)))) e')).heap[w.heap.size]? = some k := hk
                    rw [h1] at hk'
                    simp only [csize, Option.some.injEq] at hk'
                    omega
              have hH1 := hS.heap.letGo r
              have hK' := hK w.heap.size [] hH1.fresh (fun _ => rfl)
              simp only [List.nil_append, List.length_nil] at hK'
              by_cases hkeep : len ≤ lo ∨ w.heap.size = r
              · rw [if_pos hkeep] at hK'
                exact hfin _ hH1 (ext_letGo r) hK'
              · rw [if_neg hkeep] at hK'
                exact hfin _ hS.heap (Ext.refl _ _) hK'
    · exact h.elim

end
end Go.Dl

-- THE DATA LEVEL, PART C: cap, clear, append of zeros.
namespace Go.Dl
open Go

section
variable {P : Program} {G : Nat → DVal} {N : Fr}
variable {o : Oper} {s : DS} {a : Act} {w : World} {K : DK} {Qx : Exit → Act → World → Prop}

theorem s_cap (hS : Sim G N s a w) (hd : dstOk N o.dst = true) {c : Call} {x : Operand} {t : TypeId} (hx : opdOk N x = true) (he : o.op = .call c) (hc : c.callee = .builtin .cap) (hargs : c.args.toList = [x]) (hts : c.argTypes.toList = [t])
    (h : dCap o.dst (P.underlying t) (dev G s.env x) K s) : PV P o s a w K := by
  have rx := rel_dev hS hx
  have hm : c.args.map a.eval = #[a.eval x] := by apply Array.ext'; simp [hargs]
  have hex := exec_builtin (a := a) he hc
  rw [hm] at hex
  have ht' : c.argTypes[0]? = some t := by rw [← Array.getElem?_toList, hts]; rfl
  generalize hu : P.underlying t = u at h
  generalize dev G s.env x = dx at h rx
  unfold dCap at h
  split at h
  · simp only [Rel] at rx
    exact pv_int hS hd (by rw [hex]; simp [builtin, Builtin.cap_, ht', run_underlying hu, rx, goInt]) h
  · simp only [Rel] at rx
    obtain ⟨_, cap, rx, hle, _⟩ := rx
    exact pv_int hS hd (by rw [hex]; simp [builtin, Builtin.cap_, ht', run_underlying hu, rx, goInt]) (h cap hle)
  · simp only [Rel] at rx
    obtain ⟨_, cap, rx, h1, h2, _⟩ := rx
    exact pv_int hS hd (by rw [hex]; simp [builtin, Builtin.cap_, ht', run_underlying hu, rx, goInt]) (h cap h2 h1)
  · exact h.elim

theorem run_append_make {e t t' ty : TypeId} {i : TypeInfo} {z : Value} {k : IntKind} (ht : P.underlying t = some (.slice e)) (hu : P.underlying t' = some (.int k)) (hi : P.info? e = some i) (hz : i.zero = some z) (hp : 0 < i.size)
    {n : Int} (h0 : 0 < n) (hfit : n * i.bytes ≤ 35184372088832) (hn : n ≤ 35184372088832) :
    ∃ c, n.toNat ≤ c ∧ (Builtin.append_ #[t, t'] ty #[.slice none 0 0, .int .i64 n]).run P w =
      .ok (.slice (some ⟨w.heap.size, 0, none⟩) n.toNat c) { w.alloc (.cells (#[] ++ (Builtin.zeroCells z.cells n.toNat ++ Builtin.zeroCells z.cells (c - n.toNat))) e) with drawn := w.drawn + 1 } := by
  obtain ⟨m, rfl⟩ : ∃ m : Nat, n = m := ⟨n.toNat, by omega⟩
  simp only [Int.toNat_natCast]
  have hw : IntKind.wrap .i64 (m : Int) = m := IntWalk.i64_in m ⟨by omega, by omega⟩
  have hfit' : m * i.bytes ≤ 35184372088832 := by
    have : ((m * i.bytes : Nat) : Int) ≤ 35184372088832 := by rw [Int.natCast_mul]; exact hfit
    omega
  refine ⟨(Question.appendCap m 0 e).cut (w.tape w.drawn (.appendCap m 0 e)), by simp [Question.cut], ?_⟩
  have h48 : ¬ (Builtin.nextslicecap m 0 * i.bytes > 281474976710656) := by
    have := growslice_fits (need := m) (old := 0) (bytes := i.bytes) (by omega) (by omega)
    omega
  have h1 : ¬ ((m : Int) < 0) := by omega
  have h2 : ¬ (281474976710656 < (m : Int) * (i.bytes : Int)) := by omega
  have h3 : ¬ (9223372036854775807 < (m : Int)) := by omega
  have h4 : m ≠ 0 := by omega
  have h5 : ¬ (m * i.size = 0) := by
    intro e; rcases Nat.mul_eq_zero.1 e with e | e <;> omega
  have hf := firstCells_none (P := P) (w := w) i.size (w.drawn + 1)
  simp only [World.drew_eq] at hf
  simp [hf, Builtin.append_, run_underlying ht, run_underlying hu, sizeOf, typeInfo, zeroValue, hi, hz, asInt, asIntOf, hw, h1, h2, h3, h4, h5, h48, Question.forced, newRow, firstCells_none]
  rfl

theorem s_appendX (hS : Sim G N s a w) (hd : dstOk N o.dst = true) {c : Call} {x y : Operand} (hx : opdOk N x = true) (hy : opdOk N y = true) (he : o.op = .call c) (hc : c.callee = .builtin .append) (hargs : c.args.toList = [x, y]) {t t' : TypeId} (htys : c.argTypes.toList = [t, t'])
    (hit : isIntT (P.underlying t') = true) (h : dAppendX P (dev G s.env x) (dev G s.env y) o.dst (P.underlying t) K s) : o.wp P a w (NextS G N K s w) Qx := by
  have rx := rel_dev hS hx
  have ry := rel_dev hS hy
  have hm : c.args.map a.eval = #[a.eval x, a.eval y] := by apply Array.ext'; simp [hargs]
  have hat : c.argTypes = #[t, t'] := by apply Array.ext'; simp [htys]
  have hex : execOp a.eval o = (do pure (.value (← Builtin.append_ #[t, t'] o.type #[a.eval x, a.eval y]))) := by
    rw [exec_builtin he hc, hm, hat]; rfl
  generalize hut : P.underlying t = ut at h
  unfold dAppendX at h
  split at h <;> try exact h.elim
  rename_i e
  obtain ⟨k, hu⟩ : ∃ k, P.underlying t' = some (.int k) := by
    cases hq : P.underlying t' with
    | none => rw [hq] at hit; cases hit
    | some d => cases d <;> first | exact ⟨_, rfl⟩ | (rw [hq] at hit; cases hit)
  generalize dev G s.env x = dx at h rx
  generalize dev G s.env y = dy at h ry
  generalize hzo : zeroOf P e = zo at h
  unfold dAppendI at h
  split at h <;> try exact h.elim
  obtain ⟨h0, hp, hk0, hk1⟩ := h
  rename_i n zd
  obtain ⟨i, z, hi, hiz, rfl⟩ := zero_info hzo
  have hby : P.bytesOf e = i.bytes := by simp [Program.bytesOf, hi]
  have hcs : P.cellsOf e = i.size := by simp [Program.cellsOf, hi]
  simp only [Rel] at rx ry
  by_cases hn : n = 0
  · have hK := hk0 hn
    subst hn
    refine op_value hS hd (x := .slice none 0 0) ?_ (by simp [Rel]) hK
    rw [hex, rx, ry]
    have hw : IntKind.wrap .i64 0 = 0 := by rfl
    simp [Builtin.append_, run_underlying hut, run_underlying hu, sizeOf, typeInfo, hi, asInt, asIntOf, hw]
  · obtain ⟨hfit, hle, hzl, hK⟩ := hk1 hn
    rw [hby] at hfit
    rw [hcs] at hp hzl hK
    have hvr : RelL w s.heap (ofVal z).cells z.cells.toList := cells_rel (rel_ofVal w s.heap z)
    have hzs : z.cells.size = i.size := by rw [← hzl, hvr.length]; simp
    obtain ⟨cp, hcp, hrun⟩ := run_append_make (w := w) (ty := o.type) hut hu hi hiz hp (n := n) (by omega) hfit hle
    have hr := relL_repl hvr n.toNat (n.toNat * z.cells.size) (by rw [hzl, hzs])
    refine op_newS hS hd (sz := i.size) (lo := n.toNat) (cap := cp) (n := w.drawn + 1) (len := n.toNat) (e := e) (c := #[] ++ (Builtin.zeroCells z.cells n.toNat ++ Builtin.zeroCells z.cells (cp - n.toNat))) (by omega) (by omega) ?_ ?_ hr ?_ hK
    · simp only [Array.size_append, size_zeroCells, hzs, List.size_toArray, List.length_nil, Nat.zero_add]
      rw [← Nat.add_mul]
      exact Nat.mul_le_mul_right _ (by omega)
    · rw [hex, rx, ry]
      simp [hrun]
    · simp only [Array.toList_append, List.nil_append]
      exact prefix_app _ _

theorem s_clear (hS : Sim G N s a w) (hd : dstOk N o.dst = true) {c : Call} {x : Operand} {t : TypeId} (hx : opdOk N x = true) (he : o.op = .call c) (hc : c.callee = .builtin .clear) (hargs : c.args.toList = [x]) (hts : c.argTypes.toList = [t])
    (h : dClear P o.dst (P.underlying t) (dev G s.env x) K s) : o.wp P a w (NextS G N K s w) Qx := by
  have rx := rel_dev hS hx
  have hm : c.args.map a.eval = #[a.eval x] := by apply Array.ext'; simp [hargs]
  have hex := exec_builtin (a := a) he hc
  rw [hm] at hex
  have ht' : c.argTypes[0]? = some t := by rw [← Array.getElem?_toList, hts]; rfl
  generalize hu : P.underlying t = u at h
  generalize dev G s.env x = dx at h rx
  unfold dClear at h
  split at h <;> try exact h.elim
  rename_i e
  generalize hzo : zeroOf P e = zo at h
  unfold dClearS at h
  split at h <;> try exact h.elim
  · simp only [Rel] at rx
    refine op_value hS hd (x := .tuple #[]) ?_ (by simp [Rel, RelL]) h
    rw [hex]; simp [builtin, Builtin.clear_, ht', run_underlying hu, rx]
  · rename_i z sz r off n lo
    obtain ⟨rfl, hnl, h⟩ := h
    obtain ⟨i, v, hi, hiz, rfl⟩ := zero_info hzo
    have hcs : P.cellsOf e = i.size := by simp [Program.cellsOf, hi]
    simp only [Rel] at rx
    obtain ⟨o', cap, hp, hlo, hcap, hoff, hroom⟩ := rx
    cases hh : s.heap r with
    | none => rw [hh] at h; exact h.elim
    | some ob =>
      cases ob with
      | loop => rw [hh] at h; exact h.elim
      | iter => rw [hh] at h; exact h.elim
      | map => rw [hh] at h; exact h.elim
      | cells cs e' =>
        rw [hh] at h
        obtain ⟨hzl, hone, hle, hK⟩ := h
        rw [hcs] at hzl hle
        have hvr : RelL w s.heap (ofVal v).cells v.cells.toList := cells_rel (rel_ofVal w s.heap v)
        have hzs : v.cells.size = i.size := by rw [← hzl, hvr.length]; simp
        by_cases hn : n = 0
        · subst hn
          have hsp : splice cs off (repl 0 (ofVal v).cells) = cs := by simp [splice, repl]
          rw [hsp] at hK
          have hup : upd s.heap r (some (.cells cs e')) = s.heap := by
            funext j; simp only [upd]; split
            · rename_i hj; rw [hj, hh]
            · rfl
          rw [hup] at hK
          refine op_value hS hd (x := .tuple #[]) ?_ (by simp [Rel, RelL]) hK
          rw [hex]; simp [builtin, Builtin.clear_, ht', run_underlying hu, hp]
        · have : o' = off := hoff.resolve_left (by omega)
          subst this
          have hr := relL_repl hvr n (n * v.cells.size) (by rw [hzl, hzs])
          have hall : (repl n (ofVal v).cells).all (·.one) = true := by
            rw [List.all_eq_true] at hone ⊢
            intro d hd'
            simp only [repl, List.mem_flatten, List.mem_replicate] at hd'
            obtain ⟨l, ⟨_, rfl⟩, hm⟩ := hd'
            exact hone d hm
          obtain ⟨w', hst, hH, hE⟩ := store_own (P := P) hS.heap hh hr hall (off := o') (by rw [repl_length, hzl]; exact hle)
          refine op_world hS hd (x := .tuple #[]) ?_ hE hH (by simp [Rel, RelL]) hK
          rw [hex]
          obtain ⟨n', rfl⟩ : ∃ n', n = n' + 1 := ⟨n - 1, by omega⟩
          have hst' : Sem.run P (storeCells ⟨r, o', none⟩ (Builtin.zeroCells v.cells (n' + 1)).toList 0) w = .ok () w' := hst
          simp [builtin, Builtin.clear_, ht', run_underlying hu, hp, zeroValue, typeInfo, hi, hiz, hst']

end
end Go.Dl

-- THE DATA LEVEL, PART M: objects that are no rows of cells; maps.
namespace Go.Dl
open Go

section
/-- The book-keeping of loops over iterators. -/
def isBook : Obj → Bool
  | .loop _ => true
  | .deferred _ => true
  | .map _ _ => true
  | .stringIter _ _ => true
  | _ => false

theorem csize_putObj {w : World} {l : Nat} {o o' : Obj} (hl : w.heap[l]? = some o) (h : isBook o = true) (h' : isBook o' = true) (b : Nat) : csize (w.putObj l o').heap[b]? = csize w.heap[b]? := by
  have hlt : l < w.heap.size := (Array.getElem?_eq_some_iff.1 hl).1
  by_cases e : b = l
  · subst e; rw [World.putObj_heap_same hlt, hl]
    cases o <;> first | cases h; done | (cases o' <;> first | rfl | cases h'; done)
  · rw [World.putObj_heap_other e]

/-- An object that is no row of cells is turned into another. -/
theorem putObj_lasts {w : World} {l : Nat} {o o' : Obj} (hl : w.heap[l]? = some o) (h : isBook o = true) (h' : isBook o' = true) (H : DHeap) : Lasts H w H (w.putObj l o') := by
  refine ⟨fun b i x hb hc => ⟨hb, ?_⟩, by simp [World.putObj], fun b hb => csize_putObj hl h h' b⟩
  by_cases e : b = l
  · subst e; unfold World.cell? at hc; rw [hl] at hc; cases o <;> first | cases h; done | simp at hc
  · unfold World.cell? at hc ⊢
    simp only [World.putObj_heap_other e]; exact hc

theorem putObj_fz {w : World} {l : Nat} {o o' : Obj} (hl : w.heap[l]? = some o) (h : isBook o = true) (h' : isBook o' = true) (a : Addr) : (w.putObj l o').frozen? a = w.frozen? a := by
  have hlt : l < w.heap.size := (Array.getElem?_eq_some_iff.1 hl).1
  unfold World.frozen?
  by_cases e : a.block = l
  · rw [e, World.putObj_heap_same hlt, hl]
    cases o <;> first | cases h; done | (cases o' <;> first | rfl | cases h'; done)
  · rw [World.putObj_heap_other e]

theorem putObj_sim {w : World} {l : Nat} {o o' : Obj} {H : DHeap} (hl : w.heap[l]? = some o) (h : isBook o = true) (h' : isBook o' = true) (hH : SimHeap w H) (hn : H l = none) : SimHeap (w.putObj l o') H := by
  intro r ob ho
  have hr : r ≠ l := fun e => by rw [e, hn] at ho; cases ho
  rw [World.putObj_heap_other hr]
  exact (hH r ob ho).lasts (putObj_lasts hl h h' H)


theorem getObj_book {P : Program} {w : World} {r : Nat} {o : Obj} (h : w.heap[r]? = some o) (hb : isBook o = true) : (getObj r).run P w = .ok o w := by
  simp only [getObj, Sem.run, h]; cases o <;> first | rfl | cases hb
theorem setObj_book {P : Program} {w : World} {r : Nat} {o : Obj} (o' : Obj) (h : w.heap[r]? = some o) (hb : isBook o = true) : (setObj r o').run P w = .ok () (w.putObj r o') := by
  simp only [setObj, Sem.run, h, World.putObj]; cases o <;> first | rfl | cases hb

/-- An own object of that kind is turned. -/
theorem own_book {w : World} {H : DHeap} {r : Nat} {o o' : Obj} {ob : DObj} (hH : SimHeap w H) (hr : H r ≠ none) (ho : w.heap[r]? = some o) (h : isBook o = true) (h' : isBook o' = true)
    (hob : ∀ w' H', Lasts H w H' w' → RelObj w' H' ob (some o')) : SimHeap (w.putObj r o') (upd H r (some ob)) ∧ Ext H w (upd H r (some ob)) (w.putObj r o') := by
  have hlt : r < w.heap.size := (Array.getElem?_eq_some_iff.1 ho).1
  have hl : Lasts H w (upd H r (some ob)) (w.putObj r o') := by
    have h1 := putObj_lasts ho h h' H
    refine ⟨fun b i x hb hc => ⟨?_, (h1.cell b i x hb hc).2⟩, h1.size, h1.keep⟩
    have : b ≠ r := fun e => hr (e ▸ hb)
    simp [upd, this, hb]
  refine ⟨fun b x hx => ?_, by rfl, by rfl, by rfl, by simp, fun b hb hn => ?_, fun b hb => ?_, fun b hb => csize_putObj ho h h' b, fun a _ _ => putObj_fz ho h h' a⟩
  · by_cases e : b = r
    · subst e
      simp only [upd, if_pos] at hx; cases hx
      rw [World.putObj_heap_same hlt]
      exact hob _ _ hl
    · simp only [upd, if_neg e] at hx
      rw [World.putObj_heap_other e]
      exact (hH b x hx).lasts hl
  · rw [World.putObj_heap_other (fun e => hr (by rw [← e]; exact hn))]
  · by_cases e : b = r
    · exact .inl (e ▸ hr)
    · simp only [upd, if_neg e] at hb; exact .inl hb

/-- A new object of that kind. -/
theorem new_book {w : World} {H : DHeap} {o : Obj} {ob : DObj} (hH : SimHeap w H) (h : isBook o = true)
    (hob : ∀ w' H', Lasts H w H' w' → RelObj w' H' ob (some o)) : SimHeap (w.alloc o) (upd H w.heap.size (some ob)) ∧ Ext H w (upd H w.heap.size (some ob)) (w.alloc o) := by
  have hbl : ∀ b, b < w.heap.size → (w.alloc o).heap[b]? = w.heap[b]? := fun b hb => by
    show (w.heap.push o)[b]? = _
    rw [Array.getElem?_push, if_neg (by omega)]
  have hE : Ext H w (upd H w.heap.size (some ob)) (w.alloc o) := by
    refine ⟨rfl, rfl, rfl, by simp, fun b hb _ => hbl b hb, fun b hb => ?_, fun b hb => by rw [hbl b hb], fun a _ _ => ?_⟩
    · by_cases eb : b = w.heap.size
      · exact .inr (by omega)
      · simp only [upd, if_neg eb] at hb; exact .inl hb
    · unfold World.frozen?
      have hh : (w.alloc o).heap[a.block]? = if a.block = w.heap.size then some o else w.heap[a.block]? := by
        show (w.heap.push o)[a.block]? = _
        rw [Array.getElem?_push]
      rw [hh]
      by_cases e : a.block = w.heap.size
      · rw [if_pos e, e, Array.getElem?_eq_none (Nat.le_refl _)]
        cases o <;> first | cases h; done | rfl
      · rw [if_neg e]
  refine ⟨fun r x hx => ?_, hE⟩
  by_cases e : r = w.heap.size
  · subst e
    simp only [upd, if_pos] at hx; cases hx
    have : (w.alloc o).heap[w.heap.size]? = some o := by
      show (w.heap.push o)[w.heap.size]? = _
      simp
    rw [this]
    exact hob _ _ hE.lasts
  · simp only [upd, if_neg e] at hx
    rw [hbl r (hH.lt (by simp [hx]))]
    exact (hH r x hx).lasts hE.lasts
end

section
variable {P : Program} {G : Nat → DVal} {N : Fr}
variable {o : Oper} {s : DS} {a : Act} {w : World} {K : DK} {Qx : Exit → Act → World → Prop}

theorem strOf_rel {H : DHeap} : ∀ {ds : List DVal} {vs : List Value} {l : List UInt8}, RelL w H ds vs → strOf ds = some l → ∃ ns : List Int, vs = ns.map (Value.int .u8) ∧ l = ns.map fun n => UInt8.ofNat n.toNat
  | [], vs, l, hr, hl => by
    simp only [RelL] at hr; subst hr
    simp only [strOf, Option.some.injEq] at hl; subst hl
    exact ⟨[], rfl, rfl⟩
  | d :: ds, vs, l, hr, hl => by
    simp only [RelL] at hr
    obtain ⟨y, ys, rfl, h1, h2⟩ := hr
    unfold strOf at hl
    split at hl <;> try (cases hl; done)
    · rename_i e; cases e
    · rename_i n ds' e
      obtain ⟨rfl, rfl⟩ := List.cons.inj e
      obtain ⟨l', h3, rfl⟩ := Option.map_eq_some_iff.1 hl
      obtain ⟨ns, rfl, rfl⟩ := strOf_rel h2 h3
      simp only [Rel] at h1; subst h1
      exact ⟨n :: ns, rfl, rfl⟩
theorem fold_push : ∀ (ns : List Int) (s : ByteArray), (ns.foldl (fun r n => r.push (UInt8.ofNat n.toNat)) s).data.toList = s.data.toList ++ ns.map fun n => UInt8.ofNat n.toNat
  | [], s => by simp
  | n :: ns, s => by rw [List.foldl_cons, fold_push ns]; simp [ByteArray.push]
theorem fold_bytes (ns : List Int) : ns.foldl (fun r n => r.push (UInt8.ofNat n.toNat)) ByteArray.empty = ⟨⟨ns.map fun n => UInt8.ofNat n.toNat⟩⟩ := by
  have := fold_push ns ByteArray.empty
  cases h : ns.foldl (fun r n => r.push (UInt8.ofNat n.toNat)) ByteArray.empty with
  | mk d =>
    rw [h] at this
    congr 1
    apply Array.ext'
    simpa using this

theorem s_convP (hS : Sim G N s a w) (hd : dstOk N o.dst = true) {src t : TypeId} {x : Operand} (hx : opdOk N x = true) (he : o.op = .convert src t x)
    (h : dConvP P o.dst (P.underlying src) (P.underlying t) (dev G s.env x) K s) : PV P o s a w K := by
  have r := rel_dev hS hx
  by_cases hc : ∃ e, P.underlying src = some (.slice e) ∧ P.underlying t = some .string
  · obtain ⟨e, hs, ht⟩ := hc
    rw [hs, ht] at h
    obtain ⟨hu, h⟩ := h
    generalize dev G s.env x = dx at h r
    cases hb : (strSrc s.heap dx).bind strOf with
    | none => rw [hb] at h; exact h.elim
    | some l =>
      rw [hb] at h
      obtain ⟨ds, h1, h2⟩ := Option.bind_eq_some_iff.1 hb
      refine pvI hS hd (x := .string ⟨⟨l⟩⟩) ?_ (by simp [Rel]) h
      have go : ∀ (ad : Option Addr) (n c : Nat), a.eval x = .slice ad n c → (Conv.bytesToString (.slice ad n c)).run P w = .ok (.string ⟨⟨l⟩⟩) w → (execOp a.eval o).run P w = .ok (.value (.string ⟨⟨l⟩⟩)) w := by
        intro ad n c e1 e2
        simp [execOp, he, e1, run_convert_bytes_string w src t e ad n c hs hu ht, e2]
      unfold strSrc at h1
      split at h1 <;> try (cases h1; done)
      · cases h1
        simp only [strOf, Option.some.injEq] at h2; subst h2
        simp only [Rel] at r
        exact go none 0 0 r (by simp [Conv.bytesToString]; rfl)
      · rename_i cs n
        split at h1 <;> cases h1
        rename_i hle
        simp only [Rel] at r
        obtain ⟨ad, cap, e1, _, hc⟩ := r
        refine go ad n cap e1 ?_
        rcases hc with rfl | ⟨b, o', xs, rfl, hc, hr⟩
        · have hn : n = 0 := by simpa using hle
          subst hn
          simp only [List.take_nil, strOf, Option.some.injEq] at h2; subst h2
          cases ad with
          | none => simp [Conv.bytesToString]; rfl
          | some ad => exact run_bytesToString w ad 0 cap [] (by simp [loadCells, loadCellsFrom])
        · obtain ⟨ns, e2, rfl⟩ := strOf_rel (hr.take n) h2
          have hlx := hr.length
          have hl : (ns.map (Value.int .u8)).length = n := by rw [← e2]; simp; omega
          have := run_loadCells_holds (P := P) (w := w) (Holds.take (n := n) hc.holds)
          rw [e2, hl] at this
          rw [run_bytesToString w _ n cap ns this, fold_bytes]
      · rename_i sz r' off n lo
        unfold strSrcO at h1
        split at h1 <;> try (cases h1; done)
        rename_i cs e' hh
        split at h1 <;> cases h1
        rename_i hle
        simp only [Rel] at r
        obtain ⟨o', cap, e1, _, hcap, hoff, _⟩ := r
        refine go _ n cap e1 ?_
        obtain ⟨xs, hr, hho⟩ := hS.heap.holds hh
        by_cases hc0 : cap = 0
        · have hn : n = 0 := by omega
          subst hn
          simp only [List.take_zero, strOf, Option.some.injEq] at h2; subst h2
          exact run_bytesToString w _ 0 cap [] (by simp [loadCells, loadCellsFrom])
        · have : o' = off := hoff.resolve_left hc0
          subst this
          obtain ⟨ns, e2, rfl⟩ := strOf_rel ((hr.drop o').take n) h2
          have hlx := hr.length
          have hl : (ns.map (Value.int .u8)).length = n := by rw [← e2]; simp; omega
          have h3 : Holds w r' o' (xs.drop o') := by simpa using hho.drop (n := o')
          have := run_loadCells_holds (P := P) (w := w) (Holds.take (n := n) h3)
          rw [e2, hl] at this
          rw [run_bytesToString w _ n cap ns this, fold_bytes]
  · refine s_convert hS hd hx he ?_
    revert h
    generalize hs : P.underlying src = us at hc
    generalize ht : P.underlying t = ut at hc
    intro h
    unfold dConvP at h
    split at h
    · exact absurd ⟨_, rfl, rfl⟩ hc
    · exact h

theorem s_range (hS : Sim G N s a w) (hd : dstOk N o.dst = true) {t : TypeId} {x : Operand} (hx : opdOk N x = true) (he : o.op = .range t x)
    (h : dRange o.dst (P.underlying t) (dev G s.env x) K s) : o.wp P a w (NextS G N K s w) Qx := by
  have r := rel_dev hS hx
  generalize dev G s.env x = dx at h r
  generalize hu : P.underlying t = u at h
  unfold dRange at h
  split at h <;> try exact h.elim
  rename_i l
  simp only [Rel] at r
  obtain ⟨k1, k2⟩ := new_book (o := .stringIter ⟨⟨l⟩⟩ 0) (ob := .iter l 0) hS.heap rfl (fun w' H' _ => rfl)
  refine op_world hS hd (x := .pointer (some ⟨w.heap.size, 0, none⟩)) ?_ k2 k1 (by simp [Rel]) (h _ hS.heap.fresh)
  simp [execOp, he, r, run_range_string w t _ hu, World.iter]

theorem s_next (hS : Sim G N s a w) (hd : dstOk N o.dst = true) {b : Bool} {x : Operand} (hx : opdOk N x = true) (he : o.op = .next x b)
    (h : dNext o.dst b (dev G s.env x) K s) : o.wp P a w (NextS G N K s w) Qx := by
  have r := rel_dev hS hx
  generalize dev G s.env x = dx at h r
  unfold dNext at h
  split at h <;> try exact h.elim
  rename_i r0
  simp only [Rel] at r
  generalize hh : s.heap r0 = ob at h
  unfold dNextO at h
  split at h <;> try exact h.elim
  rename_i l pos
  have ho : w.heap[r0]? = some (.stringIter ⟨⟨l⟩⟩ pos) := hS.heap _ _ hh
  have hg := getObj_book (P := P) ho rfl
  have hsz : (ByteArray.mk ⟨l⟩).size = l.length := rfl
  by_cases hp : pos < l.length
  · obtain ⟨k1, k2⟩ := own_book (o' := .stringIter ⟨⟨l⟩⟩ (pos + (runeAt l pos).2)) (ob := .iter l (pos + (runeAt l pos).2)) hS.heap (by rw [hh]; simp) ho rfl rfl (fun w' H' _ => rfl)
    refine op_world hS hd (x := .tuple #[.bool true, .int .i64 pos, .int .i32 (runeAt l pos).1]) ?_ k2 k1 (by simp [Rel, RelL]) (h.1 hp)
    have hs' := setObj_book (P := P) (.stringIter ⟨⟨l⟩⟩ (pos + (runeAt l pos).2)) ho rfl
    simp only [execOp, he, r, Instr.next, Sem.run_bind, hg, Result.andThen_ok, hsz, if_pos hp]
    show Result.andThen (Result.andThen ((setObj r0 (.stringIter ⟨⟨l⟩⟩ (pos + (runeAt l pos).2))).run P w) _) _ = _
    rw [hs']
    simp [goInt, runeAt]
  · refine op_value hS hd (x := .tuple #[.bool false]) ?_ (by simp [Rel, RelL]) (h.2 hp)
    simp [execOp, he, r, Instr.next, hg, hsz, hp]

theorem s_makeMap (hS : Sim G N s a w) (hd : dstOk N o.dst = true) {t : TypeId} {x : Option Operand} (hx : (match x with | some x => opdOk N x | none => true) = true) (he : o.op = .makeMap t x)
    (h : dMakeMap o.dst (P.underlying t) (devO G s.env x) K s) : o.wp P a w (NextS G N K s w) Qx := by
  obtain ⟨k1, k2⟩ := new_book (o := .map #[] 0) (ob := .map []) hS.heap rfl (fun w' H' _ => ⟨#[], 0, rfl, rfl⟩)
  have hfr := hS.heap.fresh
  generalize hu : P.underlying t = u at h
  rcases rel_devO hS hx with ⟨rfl, e⟩ | ⟨y, rfl, e, r⟩
  · rw [e] at h
    unfold dMakeMap at h
    split at h <;> try exact h.elim
    · refine op_world hS hd (x := .map (some w.heap.size)) ?_ k2 k1 (by simp [Rel]) (h _ hfr)
      simp [execOp, he, Instr.makeMap, run_newObj_alloc]
    · rename_i e2; cases e2
  · rw [e] at h
    cases hdv : dev G s.env y <;> rw [hdv] at h r <;> (unfold dMakeMap at h; split at h <;> try exact h.elim)
    all_goals try (rename_i e2; cases e2; done)
    all_goals
      simp only [Rel] at r
      refine op_world hS hd (x := .map (some w.heap.size)) ?_ k2 k1 (by simp [Rel]) (h _ hfr)
      simp [execOp, he, Instr.makeMap, run_newObj_alloc, run_underlying hu, r, asInt, asIntOf]

theorem RelM.len {w : World} {H : DHeap} : ∀ {es : List (DVal × DVal)} {ms : List MapEntry}, RelM w H es ms → es.length = ms.length
  | [], _, h => by rw [show _ = _ from h]; rfl
  | p :: es, ms, h => by
    obtain ⟨m, ms', rfl, _, _, h3⟩ := h
    simp [RelM.len h3]
theorem RelM.get {w : World} {H : DHeap} : ∀ {es : List (DVal × DVal)} {ms : List MapEntry}, RelM w H es ms → ∀ {i : Nat} {p : DVal × DVal}, es[i]? = some p → ∃ m, ms[i]? = some m ∧ Rel w H p.1 m.key ∧ Rel w H p.2 m.val
  | [], _, _, i, p, hp => by simp at hp
  | q :: es, ms, h, i, p, hp => by
    obtain ⟨m, ms', rfl, h1, h2, h3⟩ := h
    cases i with
    | zero => simp at hp; subst hp; exact ⟨m, rfl, h1, h2⟩
    | succ i => simp at hp; obtain ⟨m', e1, e2⟩ := RelM.get h3 hp; exact ⟨m', by simpa using e1, e2⟩
theorem RelM.app {w : World} {H : DHeap} : ∀ {es fs : List (DVal × DVal)} {ms ns : List MapEntry}, RelM w H es ms → RelM w H fs ns → RelM w H (es ++ fs) (ms ++ ns)
  | [], _, _, _, h, k => by rw [show _ = _ from h]; exact k
  | p :: es, fs, ms, ns, h, k => by
    obtain ⟨m, ms', rfl, h1, h2, h3⟩ := h
    exact ⟨m, ms' ++ ns, rfl, h1, h2, RelM.app h3 k⟩
theorem RelM.set {w : World} {H : DHeap} : ∀ {es : List (DVal × DVal)} {ms : List MapEntry}, RelM w H es ms → ∀ (i : Nat) {p : DVal × DVal} {m : MapEntry}, Rel w H p.1 m.key → Rel w H p.2 m.val → RelM w H (es.set i p) (ms.set i m)
  | [], _, h, i, p, m, _, _ => by rw [show _ = _ from h]; exact rfl
  | q :: es, ms, h, 0, p, m, k1, k2 => by
    obtain ⟨m', ms', rfl, h1, h2, h3⟩ := h
    exact ⟨m, ms', rfl, k1, k2, h3⟩
  | q :: es, ms, h, i + 1, p, m, k1, k2 => by
    obtain ⟨m', ms', rfl, h1, h2, h3⟩ := h
    exact ⟨m', _, rfl, h1, h2, RelM.set h3 i k1 k2⟩
theorem RelM.erase {w : World} {H : DHeap} : ∀ {es : List (DVal × DVal)} {ms : List MapEntry}, RelM w H es ms → ∀ (i : Nat), RelM w H (es.eraseIdx i) (ms.eraseIdx i)
  | [], _, h, i => by rw [show _ = _ from h]; exact rfl
  | q :: es, ms, h, 0 => by
    obtain ⟨m', ms', rfl, h1, h2, h3⟩ := h
    exact h3
  | q :: es, ms, h, i + 1 => by
    obtain ⟨m', ms', rfl, h1, h2, h3⟩ := h
    exact ⟨m', _, rfl, h1, h2, RelM.erase h3 i⟩

theorem key_same {w : World} {H : DHeap} {d : TypeDesc} {k k' : DVal} {x x' : Value} (hk : dKeyT (some d) k = true) (h : Rel w H k x) (h' : Rel w H k' x') {b : Bool} (hb : dKey k k' = some b) : Instr.sameNow d x x' = some b := by
  cases k <;> first | (cases d <;> (simp [dKeyT] at hk; done)) | skip
  case int kk n =>
    cases d <;> simp [dKeyT] at hk
    subst hk
    cases k' <;> simp only [dKey] at hb <;> try (cases hb; done)
    rename_i k2 m
    split at hb
    · rename_i e; subst e
      cases hb
      simp only [Rel] at h h'
      subst h; subst h'
      simp only [Instr.sameNow, if_true]
      rfl
    · cases hb
  case str l =>
    cases d <;> simp [dKeyT] at hk
    cases k' <;> simp only [dKey] at hb <;> try (cases hb; done)
    cases hb
    simp only [Rel] at h h'
    subst h; subst h'
    simp only [Instr.sameNow]
    rename_i s1
    have e1 : ((⟨⟨l⟩⟩ : ByteArray) == ⟨⟨s1⟩⟩) = ((⟨l⟩ : Array UInt8) == ⟨s1⟩) := rfl
    rw [e1]
    congr 1
    rw [Bool.eq_iff_iff]; simp
  case bool l =>
    cases d <;> simp [dKeyT] at hk
    cases k' <;> simp only [dKey] at hb <;> try (cases hb; done)
    cases hb
    simp only [Rel] at h h'
    subst h; subst h'
    simp only [Instr.sameNow]
    rename_i b1; cases l <;> cases b1 <;> rfl

theorem find_now {w : World} {H : DHeap} {d : TypeDesc} {k : DVal} {x : Value} (hk : dKeyT (some d) k = true) (h : Rel w H k x) : ∀ {es : List (DVal × DVal)} {ms : List MapEntry}, RelM w H es ms → ∀ (i : Nat) {r : Option Nat}, dFind k es i = some r →
    Instr.findNow d x ms i = some (r.bind fun j => (ms[j - i]?).map fun m => (j, m.val)) ∧ ∀ j, r = some j → i ≤ j
  | [], ms, hm, i, r, hf => by
    rw [show ms = [] from hm]
    simp only [dFind] at hf; cases hf
    exact ⟨rfl, fun j hj => by cases hj⟩
  | p :: es, ms, hm, i, r, hf => by
    obtain ⟨m, ms', rfl, h1, h2, h3⟩ := hm
    simp only [dFind] at hf
    cases hb : dKey k p.1 with
    | none => rw [hb] at hf; cases hf
    | some b =>
      rw [hb] at hf
      have hs := key_same hk h h1 hb
      cases b with
      | true =>
        simp only [dFindS] at hf; cases hf
        simp only [Instr.findNow, hs]
        exact ⟨by simp, fun j hj => by cases hj; exact Nat.le_refl _⟩
      | false =>
        simp only [dFindS] at hf
        obtain ⟨g1, g2⟩ := find_now hk h h3 (i + 1) hf
        simp only [Instr.findNow, hs, g1]
        refine ⟨?_, fun j hj => by have := g2 j hj; omega⟩
        cases r with
        | none => rfl
        | some j =>
          have := g2 j rfl
          simp only [Option.bind_some]
          rw [show j - i = (j - (i + 1)) + 1 by omega]
          simp

theorem run_findKey {w : World} {H : DHeap} {kt : TypeId} {k : DVal} {x : Value} (hk : dKeyT (P.underlying kt) k = true) (h : Rel w H k x) {es : List (DVal × DVal)} {ms : List MapEntry} (hm : RelM w H es ms) {r : Option Nat} (hf : dFind k es 0 = some r) :
    (Instr.findKey kt x ms).run P w = .ok (r.bind fun j => (ms[j]?).map fun m => (j, m.val)) w := by
  cases hu : P.underlying kt with
  | none => rw [hu] at hk; cases hk
  | some d =>
    rw [hu] at hk
    obtain ⟨g1, _⟩ := find_now hk h hm 0 hf
    simp only [Nat.sub_zero] at g1
    simp [Instr.findKey, run_underlying hu, g1]

theorem run_checkKey {w : World} {H : DHeap} {kt : TypeId} {k : DVal} {x : Value} {b : Bool} (hk : dKeyT (P.underlying kt) k = true) (h : Rel w H k x) (n : Nat) : (Instr.checkKey b (n + 1) kt x).run P w = .ok () w := by
  cases hu : P.underlying kt with
  | none => rw [hu] at hk; cases hk
  | some d =>
    rw [hu] at hk
    unfold dKeyT at hk
    split at hk <;> first | (cases hk; done) | (rename_i e; cases e; simp only [Rel] at h; subst h; simp [Instr.checkKey, run_underlying hu])


theorem b2_inv {t : Option TypeDesc} (h : isB2T P t = true) : ∃ e ie, t = some (.array 2 e) ∧ P.underlying e = some .bool ∧ P.info? e = some ie ∧ P.cellsOf e = 1 := by
  unfold isB2T at h
  split at h
  · rename_i e
    simp only [Bool.and_eq_true, beq_iff_eq] at h
    obtain ⟨⟨h1, h2⟩, h3⟩ := h
    obtain ⟨ie, hie⟩ := Option.isSome_iff_exists.1 h2
    refine ⟨e, ie, rfl, ?_, hie, h3⟩
    unfold isBoolT at h1
    split at h1
    · rename_i e1; exact e1
    · cases h1
  · cases h
theorem dKeyP_inv {t : Option TypeDesc} {k : DVal} (h : dKeyP P t k = true) : dKeyT t k = true ∨ ∃ a b, k = .agg [.bool a, .bool b] ∧ isB2T P t = true := by
  unfold dKeyP at h
  split at h
  · exact .inr ⟨_, _, rfl, h⟩
  · exact .inl h
theorem b2_eqT {t e : TypeId} {ie : TypeInfo} {a b c d : Bool} (h1 : P.underlying t = some (.array 2 e)) (h2 : P.underlying e = some .bool) (h3 : P.info? e = some ie) (h4 : P.cellsOf e = 1) :
    dEqT P 2 t [.bool a, .bool b] [.bool c, .bool d] = some (decide (a = c) && decide (b = d)) := by
  have hag : aggB P e = some false := by simp [aggB, h2]
  have hr : List.range 2 = [0, 1] := rfl
  simp only [dEqT, h1, dEqTu, h3, Option.isSome_some, if_true, hr, dEqIs, h2, hag, h4, partCells, dEqTb, List.drop, List.take, Nat.mul_one]
  cases a <;> cases b <;> cases c <;> cases d <;> rfl
theorem dKey_b2 {a b : Bool} {k' : DVal} {r : Bool} (h : dKey (.agg [.bool a, .bool b]) k' = some r) : ∃ c d, k' = .agg [.bool c, .bool d] ∧ r = (decide (a = c) && decide (b = d)) := by
  unfold dKey at h
  split at h
  all_goals first | (cases h; done) | skip
  all_goals first | (rename_i heq; cases heq; done) | skip
  rename_i heq
  cases heq
  cases h
  exact ⟨_, _, rfl, rfl⟩
theorem run_equal_b2 {w : World} {H : DHeap} {t : TypeId} {a b : Bool} {k' : DVal} {x x' : Value} {r : Bool} (hk : isB2T P (P.underlying t) = true) (h : Rel w H (.agg [.bool a, .bool b]) x) (h' : Rel w H k' x') (hb : dKey (.agg [.bool a, .bool b]) k' = some r) :
    (Op.equal t x x').run P w = .ok r w := by
  obtain ⟨e, ie, h1, h2, h3, h4⟩ := b2_inv hk
  have hag : aggB P t = some true := by simp [aggB, h1]
  obtain ⟨c, d, rfl, rfl⟩ := dKey_b2 hb
  have g : ∃ xs, x = .agg xs ∧ RelL w H [.bool a, .bool b] xs.toList := h
  have g' : ∃ xs, x' = .agg xs ∧ RelL w H [.bool c, .bool d] xs.toList := h'
  obtain ⟨xs, rfl, hx⟩ := g
  obtain ⟨ys, rfl, hy⟩ := g'
  exact run_equalIn_dEqT (P := P) (w := w) (H := H) 2 Op.maxDepth (by decide) t _ _ _ _ true _ hag hx hy (fun _ => ⟨_, rfl⟩) (fun _ => ⟨_, rfl⟩) (b2_eqT h1 h2 h3 h4)
theorem find_asking {w : World} {H : DHeap} {t : TypeId} {a b : Bool} {x : Value} (hk : isB2T P (P.underlying t) = true) (h : Rel w H (.agg [.bool a, .bool b]) x) : ∀ {es : List (DVal × DVal)} {ms : List MapEntry}, RelM w H es ms → ∀ (i : Nat) {r : Option Nat}, dFind (.agg [.bool a, .bool b]) es i = some r →
    (Instr.findAsking t x ms i).run P w = .ok (r.bind fun j => (ms[j - i]?).map fun m => (j, m.val)) w ∧ ∀ j, r = some j → i ≤ j
  | [], ms, hm, i, r, hf => by
    rw [show ms = [] from hm]
    simp only [dFind] at hf; cases hf
    exact ⟨by simp [Instr.findAsking], fun j hj => by cases hj⟩
  | p :: es, ms, hm, i, r, hf => by
    obtain ⟨m, ms', rfl, h1, h2, h3⟩ := hm
    simp only [dFind] at hf
    cases hb : dKey (.agg [.bool a, .bool b]) p.1 with
    | none => rw [hb] at hf; cases hf
    | some b' =>
      rw [hb] at hf
      have hs := run_equal_b2 hk h h1 hb
      cases b' with
      | true =>
        simp only [dFindS] at hf; cases hf
        refine ⟨by simp [Instr.findAsking, hs], fun j hj => by cases hj; exact Nat.le_refl _⟩
      | false =>
        simp only [dFindS] at hf
        obtain ⟨g1, g2⟩ := find_asking hk h h3 (i + 1) hf
        refine ⟨?_, fun j hj => by have := g2 j hj; omega⟩
        simp only [Instr.findAsking, Sem.run_bind, hs, Result.andThen_ok, Bool.false_eq_true, if_false, g1]
        cases r with
        | none => rfl
        | some j =>
          have := g2 j rfl
          simp only [Option.bind_some]
          rw [show j - i = (j - (i + 1)) + 1 by omega]
          simp
theorem run_findKeyP {w : World} {H : DHeap} {kt : TypeId} {k : DVal} {x : Value} (hk : dKeyP P (P.underlying kt) k = true) (h : Rel w H k x) {es : List (DVal × DVal)} {ms : List MapEntry} (hm : RelM w H es ms) {r : Option Nat} (hf : dFind k es 0 = some r) :
    (Instr.findKey kt x ms).run P w = .ok (r.bind fun j => (ms[j]?).map fun m => (j, m.val)) w := by
  rcases dKeyP_inv hk with hk | ⟨a, b, rfl, hk⟩
  · exact run_findKey hk h hm hf
  · obtain ⟨g1, _⟩ := find_asking hk h hm 0 hf
    simp only [Nat.sub_zero] at g1
    obtain ⟨e, ie, h1, h2, h3, h4⟩ := b2_inv hk
    cases ms with
    | nil =>
      have : es = [] := by cases es with
        | nil => rfl
        | cons p es => obtain ⟨m, ms', e, _⟩ := hm; cases e
      subst this
      simp only [dFind] at hf; cases hf
      simp [Instr.findKey, run_underlying h1, Instr.findNow]
    | cons m ms =>
      have hn : Instr.findNow (.array 2 e) x (m :: ms) 0 = none := by simp [Instr.findNow, Instr.sameNow]
      simp [Instr.findKey, run_underlying h1, hn, g1]
theorem run_checkKeyP {w : World} {H : DHeap} {kt : TypeId} {k : DVal} {x : Value} {b : Bool} (hk : dKeyP P (P.underlying kt) k = true) (h : Rel w H k x) : (Instr.checkKey b (9999 + 1) kt x).run P w = .ok () w := by
  rcases dKeyP_inv hk with hk | ⟨c, d, rfl, hk⟩
  · exact run_checkKey hk h 9999
  · obtain ⟨e, ie, h1, h2, h3, h4⟩ := b2_inv hk
    simp only [Rel, RelL] at h
    obtain ⟨xs, rfl, y, ys, hx, rfl, z, zs, rfl, rfl, rfl⟩ := h
    have hag : aggB P e = some false := by simp [aggB, h2]
    have hxs : xs = #[.bool c, .bool d] := by apply Array.ext'; simpa using hx
    subst hxs
    have hp0 : (part e #[Value.bool c, .bool d] 0).run P w = .ok (.bool c) w := by simp [part, run_isAgg hag]
    have hp1 : (part e #[Value.bool c, .bool d] 1).run P w = .ok (.bool d) w := by simp [part, run_isAgg hag]
    have hsz := run_sizeOf (P := P) (w := w) (t := e) (by rw [h3]; rfl)
    rw [h4] at hsz
    have main : ∀ n, (Instr.checkKey b (n + 1 + 1) kt (.agg #[.bool c, .bool d])).run P w = .ok () w := fun n => by
      simp [Instr.checkKey, run_underlying h1, run_underlying h2, hsz, Std.Legacy.Range.forIn_eq_forIn_range', Std.Legacy.Range.size, List.range', hp0, hp1]
    exact main 9998

theorem s_lookup (hS : Sim G N s a w) (hd : dstOk N o.dst = true) {t : TypeId} {x k : Operand} {ok : Bool} (hx : opdOk N x = true) (hk : opdOk N k = true) (he : o.op = .lookup t x k ok)
    (h : dLookup P ok o.dst (P.underlying t) (dev G s.env x) (dev G s.env k) K s) : o.wp P a w (NextS G N K s w) Qx := by
  have rx := rel_dev hS hx
  have rk := rel_dev hS hk
  generalize hu : P.underlying t = u at h
  generalize dev G s.env x = dx at h rx
  generalize dev G s.env k = dk at h rk
  unfold dLookup at h
  split at h <;> try exact h.elim
  · rename_i kt e r
    obtain ⟨hkt, h⟩ := h
    simp only [Rel] at rx
    cases hh : s.heap r with
    | none => rw [hh] at h; exact h.elim
    | some ob =>
      cases ob with
      | loop => rw [hh] at h; exact h.elim
      | iter => rw [hh] at h; exact h.elim
      | cells => rw [hh] at h; exact h.elim
      | map es =>
        rw [hh] at h
        simp only [dLookO] at h
        obtain ⟨ms, clock, ho, hm⟩ := hS.heap r _ hh
        cases hf : dFind dk es 0 with
        | none => rw [hf] at h; cases hz : zeroOf P e <;> rw [hz] at h <;> exact h.elim
        | some fi =>
          rw [hf] at h
          have hfk := run_findKeyP (P := P) (w := w) hkt rk hm hf
          have hck := fun b => run_checkKeyP (P := P) (w := w) (b := b) hkt rk
          have hgo := getObj_book (P := P) ho rfl
          cases fi with
          | some i =>
            have h' : ∃ p, es[i]? = some p ∧ dLookR ok o.dst p.2 true K s := by
              cases hz : zeroOf P e <;> rw [hz] at h <;> exact h
            obtain ⟨p, hp, hK⟩ := h'
            obtain ⟨m, hmi, r1, r2⟩ := hm.get hp
            have hmi' : ms[i]? = some m := by rw [← Array.getElem?_toList]; exact hmi
            simp only [Option.bind_some, hmi, Option.map_some] at hfk
            refine op_value hS hd (x := if ok then .tuple #[m.val, .bool true] else m.val) ?_ ?_ hK
            · cases ok <;> simp [execOp, he, rx, Instr.lookup, run_underlying hu, hgo, hck, hfk]
            · cases ok
              · exact r2
              · simp only [if_true, Rel, RelL]; exact ⟨_, rfl, _, _, rfl, r2, _, _, rfl, rfl, rfl⟩
          | none =>
            simp only [Option.bind_none] at hfk
            cases hz : zeroOf P e with
            | none => rw [hz] at h; exact h.elim
            | some z =>
              rw [hz] at h
              obtain ⟨ie, v, hie, hiz, rfl⟩ := zero_info hz
              refine op_value hS hd (x := if ok then .tuple #[v, .bool false] else v) ?_ ?_ h
              · cases ok <;> simp [execOp, he, rx, Instr.lookup, run_underlying hu, hgo, hck, hfk, zeroValue, typeInfo, hie, hiz]
              · cases ok
                · exact rel_ofVal w s.heap v
                · simp only [if_true, Rel, RelL]; exact ⟨_, rfl, _, _, rfl, rel_ofVal w s.heap v, _, _, rfl, rfl, rfl⟩
  · rename_i kt e
    obtain ⟨hkt, h⟩ := h
    simp only [Rel] at rx
    have hfk := run_findKeyP (P := P) (w := w) (es := []) (ms := []) hkt rk rfl (r := none) rfl
    have hck := fun b => run_checkKeyP (P := P) (w := w) (b := b) hkt rk
    simp only [Option.bind_none] at hfk
    cases hz : zeroOf P e with
    | none => rw [hz] at h; exact h.elim
    | some z =>
      rw [hz] at h
      obtain ⟨ie, v, hie, hiz, rfl⟩ := zero_info hz
      refine op_value hS hd (x := if ok then .tuple #[v, .bool false] else v) ?_ ?_ h
      · cases ok <;> simp [execOp, he, rx, Instr.lookup, run_underlying hu, hck, hfk, zeroValue, typeInfo, hie, hiz]
      · cases ok
        · exact rel_ofVal w s.heap v
        · simp only [if_true, Rel, RelL]; exact ⟨_, rfl, _, _, rfl, rel_ofVal w s.heap v, _, _, rfl, rfl, rfl⟩

theorem s_delete (hS : Sim G N s a w) (hd : dstOk N o.dst = true) {c : Call} {x k : Operand} {t : TypeId} {ts : List TypeId} (hx : opdOk N x = true) (hk : opdOk N k = true) (he : o.op = .call c) (hc : c.callee = .builtin .delete) (hargs : c.args.toList = [x, k]) (hts : c.argTypes.toList = t :: ts)
    (h : dMapDel P o.dst (P.underlying t) (dev G s.env x) (dev G s.env k) K s) : o.wp P a w (NextS G N K s w) Qx := by
  have rx := rel_dev hS hx
  have rk := rel_dev hS hk
  have hm' : c.args.map a.eval = #[a.eval x, a.eval k] := by apply Array.ext'; simp [hargs]
  have hex := exec_builtin (a := a) he hc
  rw [hm'] at hex
  have ht' : c.argTypes[0]? = some t := by rw [← Array.getElem?_toList, hts]; rfl
  generalize hu : P.underlying t = u at h
  generalize dev G s.env x = dx at h rx
  generalize dev G s.env k = dk at h rk
  unfold dMapDel at h
  split at h <;> try exact h.elim
  rename_i kt e r
  obtain ⟨hkt, h⟩ := h
  simp only [Rel] at rx
  cases hh : s.heap r with
  | none => rw [hh] at h; exact h.elim
  | some ob =>
    cases ob with
    | loop => rw [hh] at h; exact h.elim
    | iter => rw [hh] at h; exact h.elim
    | cells => rw [hh] at h; exact h.elim
    | map es =>
      rw [hh] at h
      simp only [dMapDelO] at h
      obtain ⟨ms, clock, ho, hm⟩ := hS.heap r _ hh
      cases hf : dFind dk es 0 with
      | none => rw [hf] at h; exact h.elim
      | some fi =>
        rw [hf] at h
        simp only [dMapDelF] at h
        have hfk := run_findKeyP (P := P) (w := w) hkt rk hm hf
        have hck := fun b => run_checkKeyP (P := P) (w := w) (b := b) hkt rk
        have hgo := getObj_book (P := P) ho rfl
        have hnn : s.heap r ≠ none := by rw [hh]; simp
        cases fi with
        | none =>
          simp only [Option.bind_none] at hfk
          obtain ⟨k1, k2⟩ := own_book (o' := .map ms clock) (ob := .map es) hS.heap hnn ho rfl rfl (fun w' H' hl => ⟨ms, clock, rfl, hm.lasts hl⟩)
          have hso := setObj_book (P := P) (.map ms clock) ho rfl
          refine op_world hS hd (x := .tuple #[]) ?_ k2 k1 (by simp [Rel, RelL]) h
          rw [hex]
          simp [builtin, Builtin.delete_, ht', run_underlying hu, rx, hgo, hck, hfk, hso]
        | some i =>
          cases hmi : ms.toList[i]? with
          | none =>
            have hle : ms.toList.length ≤ i := by rwa [List.getElem?_eq_none_iff] at hmi
            have he1 : es.eraseIdx i = es := List.eraseIdx_of_length_le (by rw [hm.len]; exact hle)
            simp only [Option.bind_some, hmi, Option.map_none] at hfk
            simp only [dMapDelS, he1] at h
            obtain ⟨k1, k2⟩ := own_book (o' := .map ms clock) (ob := .map es) hS.heap hnn ho rfl rfl (fun w' H' hl => ⟨ms, clock, rfl, hm.lasts hl⟩)
            have hso := setObj_book (P := P) (.map ms clock) ho rfl
            refine op_world hS hd (x := .tuple #[]) ?_ k2 k1 (by simp [Rel, RelL]) h
            rw [hex]
            simp [builtin, Builtin.delete_, ht', run_underlying hu, rx, hgo, hck, hfk, hso]
          | some m =>
            simp only [Option.bind_some, hmi, Option.map_some] at hfk
            obtain ⟨k1, k2⟩ := own_book (o' := .map (ms.eraseIdxIfInBounds i) clock) (ob := .map (es.eraseIdx i)) hS.heap hnn ho rfl rfl (fun w' H' hl => ⟨_, clock, rfl, by
              rw [Array.toList_eraseIdxIfInBounds]; exact (hm.lasts hl).erase i⟩)
            have hso := setObj_book (P := P) (.map (ms.eraseIdxIfInBounds i) clock) ho rfl
            refine op_world hS hd (x := .tuple #[]) ?_ k2 k1 (by simp [Rel, RelL]) h
            rw [hex]
            simp [builtin, Builtin.delete_, ht', run_underlying hu, rx, hgo, hck, hfk, hso]


theorem RelM.modify {w : World} {H : DHeap} {f : MapEntry → MapEntry} : ∀ {es : List (DVal × DVal)} {ms : List MapEntry}, RelM w H es ms → ∀ (i : Nat) {p : DVal × DVal}, (∀ m, Rel w H p.1 (f m).key ∧ Rel w H p.2 (f m).val) → RelM w H (es.set i p) (ms.modify i f)
  | [], _, h, i, p, _ => by rw [show _ = _ from h]; cases i <;> exact rfl
  | q :: es, ms, h, 0, p, k => by
    obtain ⟨m', ms', rfl, h1, h2, h3⟩ := h
    exact ⟨f m', ms', rfl, (k m').1, (k m').2, h3⟩
  | q :: es, ms, h, i + 1, p, k => by
    obtain ⟨m', ms', rfl, h1, h2, h3⟩ := h
    exact ⟨m', _, rfl, h1, h2, RelM.modify h3 i k⟩

theorem dFind_some {k : DVal} : ∀ {es : List (DVal × DVal)} {n i : Nat}, dFind k es n = some (some i) → ∃ p, n ≤ i ∧ es[i - n]? = some p ∧ dKey k p.1 = some true
  | [], n, i, h => by simp [dFind] at h
  | q :: es, n, i, h => by
    simp only [dFind] at h
    cases hb : dKey k q.1 with
    | none => rw [hb] at h; cases h
    | some b =>
      rw [hb] at h
      cases b with
      | true => simp only [dFindS] at h; cases h; exact ⟨q, Nat.le_refl _, by simp, hb⟩
      | false =>
        simp only [dFindS] at h
        obtain ⟨p, h1, h2, h3⟩ := dFind_some h
        refine ⟨p, by omega, ?_, h3⟩
        rw [show i - n = (i - (n + 1)) + 1 by omega]; simpa using h2

theorem same_bits {w : World} {H : DHeap} {k k' : DVal} {x x' : Value} (h : Rel w H k x) (h' : Rel w H k' x') (hb : dKey k k' = some true) (n : Nat) : Instr.sameBits (n + 1) x' x = true := by
  cases k <;> (try (simp [dKey] at hb; done)) <;> cases k' <;> simp only [dKey] at hb <;> (try (cases hb; done))
  · simp only [Rel] at h h'
    subst h; subst h'
    simp at hb; subst hb
    cases n <;> simp [Instr.sameBits]
  · split at hb <;> simp at hb
    rename_i e; subst e; subst hb
    simp only [Rel] at h h'
    subst h; subst h'
    cases n <;> simp [Instr.sameBits]
  · simp only [Rel] at h h'
    subst h; subst h'
    simp at hb; subst hb
    have e1 : ∀ l : List UInt8, ((⟨⟨l⟩⟩ : ByteArray) == ⟨⟨l⟩⟩) = true := fun l => by
      show ((⟨l⟩ : Array UInt8) == ⟨l⟩) = true
      simp
    cases n <;> simp [Instr.sameBits, e1]
  · rename_i cs1 cs2
    have hb : dKey (.agg cs1) (.agg cs2) = some true := hb
    obtain ⟨a, b, e1⟩ : ∃ a b, cs1 = [.bool a, .bool b] := by
      unfold dKey at hb
      split at hb
      all_goals first | (cases hb; done) | skip
      all_goals first | (rename_i heq _; cases heq; done) | skip
      rename_i h1 h2
      cases h1
      exact ⟨_, _, rfl⟩
    subst e1
    obtain ⟨c, d, e2, e3⟩ := dKey_b2 hb
    cases e2
    have e3 := e3.symm
    simp only [Bool.and_eq_true, decide_eq_true_eq] at e3
    obtain ⟨rfl, rfl⟩ := e3
    have g : ∃ xs, x = .agg xs ∧ RelL w H [.bool a, .bool b] xs.toList := h
    have g' : ∃ xs, x' = .agg xs ∧ RelL w H [.bool a, .bool b] xs.toList := h'
    obtain ⟨xs, rfl, hx⟩ := g
    obtain ⟨ys, rfl, hy⟩ := g'
    simp only [RelL, Rel] at hx hy
    obtain ⟨_, _, hx, rfl, _, _, rfl, rfl, rfl⟩ := hx
    obtain ⟨_, _, hy, rfl, _, _, rfl, rfl, rfl⟩ := hy
    have hxs : xs = #[.bool a, .bool b] := by apply Array.ext'; simpa using hx
    have hys : ys = #[.bool a, .bool b] := by apply Array.ext'; simpa using hy
    subst hxs; subst hys
    cases n <;> simp [Instr.sameBits]

theorem s_mapUpd (hS : Sim G N s a w) {t : TypeId} {x k y : Operand} (hx : opdOk N x = true) (hk : opdOk N k = true) (hy : opdOk N y = true) (he : o.op = .mapUpdate t x k y ∨ o.op = .insert t x k y)
    (h : dMapUpd P o.dst (P.underlying t) (dev G s.env x) (dev G s.env k) (dev G s.env y) K s) : o.wp P a w (NextS G N K s w) Qx := by
  have rx := rel_dev hS hx
  have rk := rel_dev hS hk
  have ry := rel_dev hS hy
  generalize hu : P.underlying t = u at h
  generalize dev G s.env x = dx at h rx
  generalize dev G s.env k = dk at h rk
  generalize dev G s.env y = dy at h ry
  unfold dMapUpd at h
  split at h <;> try exact h.elim
  rename_i kt e r
  obtain ⟨hdst, hkt, h⟩ := h
  simp only [Rel] at rx
  cases hh : s.heap r with
  | none => rw [hh] at h; exact h.elim
  | some ob =>
    cases ob with
    | loop => rw [hh] at h; exact h.elim
    | iter => rw [hh] at h; exact h.elim
    | cells => rw [hh] at h; exact h.elim
    | map es =>
      rw [hh] at h
      obtain ⟨hone, h⟩ := h
      obtain ⟨ms, clock, ho, hm⟩ := hS.heap r _ hh
      cases hf : dFind dk es 0 with
      | none => rw [hf] at h; exact h.elim
      | some fi =>
        rw [hf] at h
        simp only [dMapUpdF] at h
        have hfk := run_findKeyP (P := P) (w := w) hkt rk hm hf
        have hck := fun b => run_checkKeyP (P := P) (w := w) (b := b) hkt rk
        have hgo := getObj_book (P := P) ho rfl
        have hnn : s.heap r ≠ none := by rw [hh]; simp
        have fin : ∀ {o' : Obj} {es' : List (DVal × DVal)}, isBook o' = true → (∀ w' H', Lasts s.heap w H' w' → RelObj w' H' (.map es') (some o')) → (execOp a.eval o).run P w = .ok .skip (w.putObj r o') → K ⟨s.env, upd s.heap r (some (.map es'))⟩ → o.wp P a w (NextS G N K s w) Qx := by
          intro o' es' hb' hob hrun hK
          obtain ⟨k1, k2⟩ := own_book hS.heap hnn ho rfl hb' hob
          unfold Oper.wp
          rw [hrun]
          show NextS G N K s w (a.put o.dst undef) _
          rw [hdst]
          exact ⟨_, hK, hS.ext k2 k1, k2⟩
        cases fi with
        | none =>
          simp only [Option.bind_none] at hfk
          have hso := setObj_book (P := P) (.map (ms.push { key := a.eval k, val := a.eval y, born := clock }) (clock + 1)) ho rfl
          refine fin (o' := .map (ms.push { key := a.eval k, val := a.eval y, born := clock }) (clock + 1)) rfl (fun w' H' hl => ⟨_, _, rfl, ?_⟩) ?_ h
          · rw [Array.toList_push]
            exact (hm.lasts hl).app (fs := [(dk, dy)]) ⟨_, [], rfl, Rel.lasts hl _ _ rk, Rel.lasts hl _ _ ry, rfl⟩
          · rcases he with he | he <;> simp [execOp, he, rx, Instr.mapUpdate, run_underlying hu, hgo, hck, hfk, hso]
        | some i =>
          obtain ⟨p, _, hp, hkey⟩ := dFind_some hf
          rw [Nat.sub_zero] at hp
          obtain ⟨m, hmi, r1, r2⟩ := hm.get hp
          have hmi' : ms[i]? = some m := by rw [← Array.getElem?_toList]; exact hmi
          simp only [Option.bind_some, hmi, Option.map_some] at hfk
          have hsb := same_bits rk r1 hkey 9999
          have hso := setObj_book (P := P) (.map (ms.modify i fun e => { e with key := a.eval k, val := a.eval y }) clock) ho rfl
          refine fin (o' := .map (ms.modify i fun e => { e with key := a.eval k, val := a.eval y }) clock) rfl (fun w' H' hl => ⟨_, _, rfl, ?_⟩) ?_ h
          · rw [Array.toList_modify]
            exact (hm.lasts hl).modify i (fun m => ⟨Rel.lasts hl _ _ rk, Rel.lasts hl _ _ ry⟩)
          · rcases he with he | he <;> simp [execOp, he, rx, Instr.mapUpdate, run_underlying hu, hgo, hck, hfk, hmi', Instr.keyThatStays, hsb, hso]

end
end Go.Dl

-- THE DATA LEVEL, PART V: calls, regions, code: what the data level says of a piece of code is true of the model's.
namespace Go.Dl
open Go

section
variable {P : Program} {G : Nat → DVal} {N : Fr}
variable {o : Oper} {s s0 : DS} {a : Act} {w w0 : World} {K : DK} {Q : DExit → DS → Prop}

theorem DCalls.mono {f : FuncId} {args : List DVal} {H : DHeap} {R R' : DEnd → DHeap → Prop} (h : DCalls P G f args H R) (hr : ∀ e H', R e H' → R' e H') : DCalls P G f args H R' :=
  ⟨h.1, fun vs w hv hH hG => (h.2 vs w hv hH hG).mono fun e w' ⟨e', H', r, k⟩ => ⟨e', H', hr _ _ r, k⟩⟩

theorem DYields.mono {l : Nat} {args : List DVal} {H : DHeap} {R R' : DEnd → DHeap → Prop} (h : DYields P G l args H R) (hr : ∀ e H', R e H' → R' e H') : DYields P G l args H R' :=
  fun F n hF vs w hv hH hG => by
    obtain ⟨fn, tmps, asg, body, h1, h2⟩ := h F n hF vs w hv hH hG
    exact ⟨fn, tmps, asg, body, h1, h2.mono fun e w' ⟨e', H', r, k⟩ => ⟨e', H', hr _ _ r, k⟩⟩

theorem s_call (hS : Sim G N s a w) (hE0 : Ext s0.heap w0 s.heap w) (hd : dstOk N o.dst = true) {c : Call} {f : Operand} (hf : opdOk N f = true) (hx : c.args.toList.all (opdOk N) = true) (he : o.op = .call c) (hc : c.callee = .value f)
    (hny : ∀ l, dev G s.env f ≠ .func (.yield l) [] []) (h : dCallV P G (devs G s.env c.args.toList) o.dst Q (dev G s.env f) K s) : o.wp P a w (NextS G N K s w) (ExitS G N Q s0 w0) := by
  have rf := rel_dev hS hf
  have rl := rel_devs hS hx
  generalize dev G s.env f = df at h rf hny
  generalize devs G s.env c.args.toList = ds at h rl
  unfold dCallV at h
  split at h <;> try first | exact h.elim | exact (hny _ rfl).elim
  rename_i k first captured
  simp only [Rel] at rf
  obtain ⟨xs, ys, hfv, h1, h2⟩ := rf
  obtain ⟨hcall, hcalls⟩ := h
  have hargs : RelL w s.heap (first ++ ds ++ captured) (xs.toList ++ c.args.toList.map a.eval ++ ys.toList) := (h1.append rl).append h2
  have harr : (xs ++ c.args.map a.eval ++ ys) = (xs.toList ++ c.args.toList.map a.eval ++ ys.toList).toArray := by apply Array.ext'; simp
  have hrun : (execOp a.eval o).run P w = .ok (.enter k (xs ++ c.args.map a.eval ++ ys)) w := by
    simp only [execOp, he, resolve, hc, hfv, Deferred.ofValue, Sem.run_bind, Sem.run_pure, Result.andThen_ok, invoke, hcall]
  unfold Oper.wp
  rw [hrun, harr]
  refine (hcalls _ _ hargs hS.heap hS.glob).mono fun e w' ⟨e', H', hR, hre, hH', hE⟩ => ?_
  cases hre with
  | ret d v hv => exact ⟨_, hR, (hS.ext hE hH').put hd hv, hE⟩
  | panic d v hv => exact ⟨_, _, hR, .panic _ _ hv, hS.ext hE hH', hE0.trans hE⟩

theorem operOk_dst (h : operOk N o = true) : dstOk N o.dst = true := by
  unfold operOk at h
  rw [Bool.and_eq_true] at h
  unfold dstOk
  exact h.1

theorem all_push {α : Type} (p : α → Bool) (xs : Array α) : xs.all p = xs.toList.all p := by
  rw [← Array.all_toList]

theorem s_panic' {x : DVal} {v : Value} (hS : Sim G N s a w) (hE0 : Ext s0.heap w0 s.heap w) (hrun : (execOp a.eval o).run P w = ((Instr.panic v).run P w).andThen fun v w' => .ok (.value v) w') (hv : Rel w s.heap x v) (h : dPanic Q s x) {next : Act → World → Prop} : o.wp P a w next (ExitS G N Q s0 w0) := by
  unfold dPanic at h
  split at h <;> try exact h.elim
  have hv' := hv
  simp only [Rel] at hv
  obtain ⟨y, rfl, hy⟩ := hv
  unfold Oper.wp
  rw [hrun]
  simp only [Instr.panic, goPanic, Sem.run_halt, Result.andThen_halt]
  exact ⟨_, s, h, .panic _ _ hv', hS, hE0⟩

theorem dop_sound (hny : ∀ c f l, o.op = .call c → c.callee = .value f → dev G s.env f ≠ .func (.yield l) [] []) (hok : operOk N o = true) (hS : Sim G N s a w) (hE0 : Ext s0.heap w0 s.heap w) (h : dop P G o.dst K Q s o.op) : o.wp P a w (NextS G N K s w) (ExitS G N Q s0 w0) := by
  have hd := operOk_dst hok
  unfold operOk at hok
  rw [Bool.and_eq_true] at hok
  have hop := hok.2
  rw [all_push] at hop
  cases hq : o.op <;> rw [hq] at h hop <;> simp only [Op.operands, Call.operands, List.all_cons, List.all_nil, Bool.and_true, Bool.and_eq_true] at hop <;> try (exact h.elim)
  case move x => exact (s_move hS hd hop hq h).wp hS hd
  case assign x => exact (s_assign hS hd hop hq h).wp hS hd
  case pick c x y => exact (s_pick hS hd hop.1 hop.2.1 hop.2.2 hq h).wp hS hd
  case alloc e => exact s_alloc hS hd hq h
  case box e x => exact s_box hS hd hop hq h
  case build t ps => exact s_build hS hd (by simpa [Function.comp_def] using hop) hq h
  case buildSlice t n ps => exact s_buildSlice hS hd (by simpa [Function.comp_def] using hop) hq h
  case load t x => exact (s_load hS hd hop hq h).wp hS hd
  case store t x y => exact s_store hS hop.1 hop.2 hq h
  case nilCheck x => exact (s_nilCheck hS hd hop hq h).wp hS hd
  case binOp op t x y t' => exact (s_binX hS hd hop.1 hop.2 hq h).wp hS hd
  case unOp op t x => exact (s_unOp hS hd hop hq h).wp hS hd
  case convert src t x => exact (s_convP hS hd hop hq h).wp hS hd
  case range t x => exact s_range hS hd hop hq h
  case next x b => exact s_next hS hd hop hq h
  case makeInterface t x => exact (s_makeIface hS hd hop hq h).wp hS hd
  case makeFunc fn fs cs =>
    simp only [Array.toList_append, List.all_append, Bool.and_eq_true] at hop
    exact (s_makeFunc hS hd hop.1 hop.2 hq h).wp hS hd
  case makeMap t x =>
    have opt : ∀ (z : Option Operand), z.toArray.toList.all (opdOk N) = true → (match z with | some x => opdOk N x | none => true) = true := by
      intro z hz; cases z with
      | none => rfl
      | some z => simpa using hz
    exact s_makeMap hS hd (opt _ hop) hq h
  case lookup t x k ok => exact s_lookup hS hd hop.1 hop.2 hq h
  case mapUpdate t m k x => exact s_mapUpd hS hop.1 hop.2.1 hop.2.2 (.inl hq) h
  case insert t m k x => exact s_mapUpd hS hop.1 hop.2.1 hop.2.2 (.inr hq) h
  case makeSlice t l c => exact s_makeSlice hS hd hop.1 hop.2 hq h
  case slice t x lo hi mx =>
    simp only [Array.toList_append, List.all_append, Bool.and_eq_true, List.all_cons, List.all_nil, Bool.and_true] at hop
    have opt : ∀ (z : Option Operand), z.toArray.toList.all (opdOk N) = true → (match z with | some x => opdOk N x | none => true) = true := by
      intro z hz; cases z with
      | none => rfl
      | some z => simpa using hz
    exact (s_slice hS hd hop.1.1.1 (opt _ hop.1.1.2) (opt _ hop.1.2) (opt _ hop.2) hq h).wp hS hd
  case fieldAddr t x f => exact (s_fieldAddr hS hd hop hq h).wp hS hd
  case field t x f => exact (s_field hS hd hop hq h).wp hS hd
  case indexAddr t x i => exact (s_indexAddr hS hd hop.1 hop.2 hq h).wp hS hd
  case index t x i => exact (s_index hS hd hop.1 hop.2 hq h).wp hS hd
  case typeAssert x t u ok => exact (s_typeAssert hS hd hop hq h).wp hS hd
  case extract x i => exact (s_extract hS hd hop hq h).wp hS hd
  case panic x =>
    exact s_panic' hS hE0 (v := a.eval x) (by simp [execOp, hq]) (rel_dev hS hop) h
  case call c =>
    simp only [dop] at h
    simp only [Array.toList_append, List.all_append, Bool.and_eq_true] at hop
    obtain ⟨hcal, hargs⟩ := hop
    cases hc : c.callee with
    | invoke r m => rw [hc] at h; exact h.elim
    | value f =>
      rw [hc] at h hcal
      simp only [dCallee] at h
      exact s_call hS hE0 hd (by simpa using hcal) hargs hq hc (fun l => hny c f l hq hc) h
    | builtin b =>
      rw [hc] at h
      simp only [dCallee] at h
      cases b <;> (try (cases hdv : devs G s.env c.args.toList <;> rw [hdv] at h <;> exact h.elim))
      case len =>
        cases hdv : devs G s.env c.args.toList with
        | nil => rw [hdv] at h; exact h.elim
        | cons d ds => cases ds with
          | cons d2 ds => rw [hdv] at h; exact h.elim
          | nil =>
            obtain ⟨x, hx, rfl⟩ := devs_one hdv
            rw [hdv] at h
            rw [hx] at hargs
            simp only [dBuiltin] at h
            cases hts : c.argTypes.toList with
            | nil => rw [hts] at h; exact h.elim
            | cons t ts => cases ts with
              | nil => rw [hts] at h; exact (s_len hS hd (by simpa using hargs) hq hc hx hts h).wp hS hd
              | cons t' ts' => rw [hts] at h; exact h.elim
      case cap =>
        cases hdv : devs G s.env c.args.toList with
        | nil => rw [hdv] at h; exact h.elim
        | cons d ds => cases ds with
          | cons d2 ds => rw [hdv] at h; exact h.elim
          | nil =>
            obtain ⟨x, hx, rfl⟩ := devs_one hdv
            rw [hdv] at h
            rw [hx] at hargs
            simp only [dBuiltin] at h
            cases hts : c.argTypes.toList with
            | nil => rw [hts] at h; exact h.elim
            | cons t ts => cases ts with
              | nil => rw [hts] at h; exact (s_cap hS hd (by simpa using hargs) hq hc hx hts h).wp hS hd
              | cons t' ts' => rw [hts] at h; exact h.elim
      case clear =>
        cases hdv : devs G s.env c.args.toList with
        | nil => rw [hdv] at h; exact h.elim
        | cons d ds => cases ds with
          | cons d2 ds => rw [hdv] at h; exact h.elim
          | nil =>
            obtain ⟨x, hx, rfl⟩ := devs_one hdv
            rw [hdv] at h
            rw [hx] at hargs
            simp only [dBuiltin] at h
            cases hts : c.argTypes.toList with
            | nil => rw [hts] at h; exact h.elim
            | cons t ts => cases ts with
              | nil => rw [hts] at h; exact s_clear hS hd (by simpa using hargs) hq hc hx hts h
              | cons t' ts' => rw [hts] at h; exact h.elim
      case delete =>
        cases hdv : devs G s.env c.args.toList with
        | nil => rw [hdv] at h; exact h.elim
        | cons d ds => cases ds with
          | nil => rw [hdv] at h; exact h.elim
          | cons d2 ds => cases ds with
            | cons d3 ds => rw [hdv] at h; exact h.elim
            | nil =>
              obtain ⟨x, y, hx, rfl, rfl⟩ := devs_two hdv
              rw [hdv] at h
              rw [hx] at hargs
              simp only [List.all_cons, List.all_nil, Bool.and_true, Bool.and_eq_true] at hargs
              simp only [dBuiltin] at h
              cases hts : c.argTypes.toList with
              | nil => rw [hts] at h; exact h.elim
              | cons t ts => rw [hts] at h; exact s_delete hS hd hargs.1 hargs.2 hq hc hx hts h
      case append =>
        cases hdv : devs G s.env c.args.toList with
        | nil => rw [hdv] at h; exact h.elim
        | cons d ds => cases ds with
          | nil => rw [hdv] at h; exact h.elim
          | cons d2 ds => cases ds with
            | cons d3 ds => rw [hdv] at h; exact h.elim
            | nil =>
              obtain ⟨x, y, hx, rfl, rfl⟩ := devs_two hdv
              rw [hdv] at h
              rw [hx] at hargs
              simp only [List.all_cons, List.all_nil, Bool.and_true, Bool.and_eq_true] at hargs
              simp only [dBuiltin] at h
              cases hts : c.argTypes.toList with
              | nil => rw [hts] at h; exact h.elim
              | cons t ts => cases ts with
                | nil => rw [hts] at h; exact h.elim
                | cons t' ts' => cases ts' with
                  | nil =>
                    rw [hts] at h
                    simp only [dAppendTs] at h
                    cases hit : isIntT (P.underlying t') with
                    | true => rw [hit] at h; exact s_appendX hS hd hargs.1 hargs.2 hq hc hx hts hit h
                    | false => rw [hit] at h; exact s_append hS hd hargs.1 hargs.2 hq hc hx hts h
                  | cons t3 ts3 => rw [hts] at h; exact h.elim
      case min => exact (s_minmax (isMax := false) hS hd hargs hq hc h).wp hS hd
      case max => exact (s_minmax (isMax := true) hS hd hargs hq hc h).wp hS hd
      case panic =>
        cases hdv : devs G s.env c.args.toList with
        | nil => rw [hdv] at h; exact h.elim
        | cons d ds => cases ds with
          | cons d2 ds => rw [hdv] at h; exact h.elim
          | nil =>
            obtain ⟨x, hx, rfl⟩ := devs_one hdv
            rw [hdv] at h
            rw [hx] at hargs
            have hm : c.args.map a.eval = #[a.eval x] := by apply Array.ext'; simp [hx]
            refine s_panic' hS hE0 (v := a.eval x) ?_ (rel_dev hS (by simpa using hargs)) h
            rw [exec_builtin hq hc, hm]
            simp [builtin]


theorem dstOf_eq : ∀ (all : List Oper) (j : Nat), dstOf all j = (all[j]?).bind (·.dst)
  | [], j => by simp [dstOf]
  | o :: r, 0 => by simp [dstOf]
  | o :: r, j + 1 => by simp [dstOf, dstOf_eq r j]

theorem dop_noDefer {dst : Option Nat} {K : DK} {Q : DExit → DS → Prop} {s : DS} {op : Op} (h : dop P G dst K Q s op) (c : Call) : op ≠ .defer c := by
  intro e; subst e; exact h

theorem s_yield {F : Fence} {n : Nat} (hF : FOk F) (hS : Sim G N s a w) (hE0 : Ext s0.heap w0 s.heap w) (hd : dstOk N o.dst = true) {c : Call} {f : Operand} {l : Nat} (hf : opdOk N f = true) (hx : c.args.toList.all (opdOk N) = true) (he : o.op = .call c) (hc : c.callee = .value f)
    (hy : dev G s.env f = .func (.yield l) [] []) (h : DYields P G l (devs G s.env c.args.toList) s.heap (DAfter o.dst K Q s.env)) : o.wpIn F n P a w (NextS G N K s w) (ExitS G N Q s0 w0) := by
  have rf := rel_dev hS hf
  have rl := rel_devs hS hx
  rw [hy] at rf
  generalize devs G s.env c.args.toList = ds at h rl
  simp only [Rel, RelL] at rf
  obtain ⟨xs, ys, hfv, h1, h2⟩ := rf
  have hxs : xs = #[] := by cases xs; simp at h1; subst h1; rfl
  subst hxs
  obtain ⟨fn, tmps, asg, body, hrun, hround⟩ := h F (n - 1) hF _ w rl hS.heap hS.glob
  have hrun' : (execOp a.eval o).run P w = .ok (.round l fn tmps asg body) w := by
    have : (c.args.toList.map a.eval).toArray = c.args.map a.eval := by apply Array.ext'; simp
    rw [this] at hrun
    simp only [execOp, he, resolve, hc, hfv, Deferred.ofValue, Sem.run_bind, Sem.run_pure, Result.andThen_ok, invoke]
    simpa using hrun
  refine ⟨fun f _ => hF.fn f, ?_⟩
  rw [Oper.semAt_eq _ _ _ (by intro c' e; rw [he] at e; cases e), hrun', Oper.uponIn_round]
  refine ⟨(by rw [hF.depth]; intro hh; cases hh), hround.mono fun e w' ⟨e', H', hR, hre, hH', hE⟩ => ?_⟩
  cases hre with
  | ret d v hv => exact ⟨_, hR, (hS.ext hE hH').put hd hv, hE⟩
  | panic d v hv => exact ⟨_, _, hR, .panic _ _ hv, hS.ext hE hH', hE0.trans hE⟩

theorem dop_soundIn {F : Fence} {n : Nat} (hF : FOk F) (hok : operOk N o = true) (hS : Sim G N s a w) (hE0 : Ext s0.heap w0 s.heap w) (h : dop P G o.dst K Q s o.op) : o.wpIn F n P a w (NextS G N K s w) (ExitS G N Q s0 w0) := by
  by_cases hy : ∃ c f l, o.op = .call c ∧ c.callee = .value f ∧ dev G s.env f = .func (.yield l) [] []
  · obtain ⟨c, f, l, h1, h2, h3⟩ := hy
    have hd := operOk_dst hok
    unfold operOk at hok
    rw [Bool.and_eq_true] at hok
    have hop := hok.2
    rw [all_push] at hop
    rw [h1] at h hop
    simp only [Op.operands, Call.operands, Array.toList_append, List.all_append, Bool.and_eq_true] at hop
    obtain ⟨hcal, hargs⟩ := hop
    rw [h2] at hcal
    simp only [dop, h2, dCallee, h3, dCallV] at h
    exact s_yield hF hS hE0 hd (by simpa using hcal) hargs h1 h2 h3 h
  · exact hF.oper (dop_noDefer h) (dop_sound (fun c f l h1 h2 h3 => hy ⟨c, f, l, h1, h2, h3⟩) hok hS hE0 h)

theorem dwps_sound {F : Fence} {n : Nat} (hF : FOk F) (all : List Oper) (hall : all.all (operOk N) = true) : ∀ (rest : List Oper), rest.all (operOk N) = true → ∀ (s : DS) (a : Act) (w : World), Sim G N s a w → Ext s0.heap w0 s.heap w → dwps P G all Q rest s →
    wpListIn F n P all.toArray (ExitS G N Q s0 w0) rest a w
  | [], _, s, a, w, hS, hE, h => ⟨.normal, s, h, .normal, hS, hE⟩
  | o :: rest, hr, s, a, w, hS, hE, h => by
    simp only [List.all_cons, Bool.and_eq_true] at hr
    have next : ∀ (o : Oper) s a w, Sim G N s a w → Ext s0.heap w0 s.heap w → operOk N o = true → dop P G o.dst (dwps P G all Q rest) Q s o.op → o.wpIn F n P a w (wpListIn F n P all.toArray (ExitS G N Q s0 w0) rest) (ExitS G N Q s0 w0) := by
      intro o s a w hS hE hok hd
      exact Oper.wpIn_mono (fun a' w' ⟨s', hK, hS', hE'⟩ => dwps_sound hF all hall rest hr.2 s' a' w' hS' (hE.trans hE') hK) (dop_soundIn hF hok hS hE hd)
    have skip : dput o.dst dundef (dwps P G all Q rest) s → wpListIn F n P all.toArray (ExitS G N Q s0 w0) rest (a.put o.dst undef) w := fun hp =>
      dwps_sound hF all hall rest hr.2 _ _ _ (hS.put (operOk_dst hr.1) (rel_dundef w s.heap)) hE hp
    unfold wpListIn
    simp only [dwps] at h
    cases hg : o.guard with
    | none =>
      rw [hg] at h
      rw [if_pos (by simp [Region.wanted, hg])]
      exact (next o s a w hS hE hr.1 h)
    | some jb =>
      obtain ⟨j, b⟩ := jb
      rw [hg] at h
      simp only at h
      cases hj : dstOf all j with
      | none => rw [hj] at h; exact h.elim
      | some g =>
        rw [hj] at h
        simp only at h
        have hjo : (all[j]?).bind (·.dst) = some g := by rw [← dstOf_eq]; exact hj
        obtain ⟨oj, hoj, hdj⟩ := Option.bind_eq_some_iff.1 hjo
        have hmem : oj ∈ all := List.mem_of_getElem? hoj
        have hgN : g < N := by
          have := List.all_eq_true.1 hall oj hmem
          have := operOk_dst this
          rw [hdj] at this
          simpa [dstOk] using this
        have hrel := hS.tmps g hgN
        by_cases hun : s.env g = .tuple []
        · rw [hun] at h hrel
          simp only [Rel, RelL] at hrel
          obtain ⟨xs, hxs, hx0⟩ := hrel
          have hy : yielded all.toArray a.tmps j = none := by
            have h2 : ∀ z, a.tmps[g]? = some z → z = .tuple xs := fun z hz => by
              rw [Array.getD_eq_getD_getElem?, hz] at hxs; simpa using hxs
            unfold yielded
            simp only [List.getElem?_toArray, hjo, Option.bind_some]
            cases hz : a.tmps[g]? with
            | none => rfl
            | some z => rw [h2 z hz]
          rw [if_neg (by simp [Region.wanted, hg, hy])]
          exact ⟨fun f _ => hF.fn f, skip h⟩
        split at h <;> (try exact h.elim) <;> (try (rename_i hv; exact absurd hv hun))
        rename_i v hv
        rw [hv] at hrel
        simp only [Rel] at hrel
        have hy : yielded all.toArray a.tmps j = some v := by
          have h1 : a.tmps[g]? = some (.bool v) := by
            rw [Array.getD_eq_getD_getElem?] at hrel
            cases hq : a.tmps[g]? with
            | none =>
              have := hS.size
              rw [Array.getElem?_eq_none_iff] at hq
              omega
            | some z => rw [hq] at hrel; simpa using hrel
          simp [yielded, hoj, hdj, h1]
        by_cases hvb : v = b
        · rw [if_pos (by simp [Region.wanted, hg, hy, hvb])]
          exact (next o s a w hS hE hr.1 (h.1 hvb))
        · rw [if_neg (by simp [Region.wanted, hg, hy, hvb])]
          exact ⟨fun f _ => hF.fn f, skip (h.2 hvb)⟩

end
end Go.Dl
