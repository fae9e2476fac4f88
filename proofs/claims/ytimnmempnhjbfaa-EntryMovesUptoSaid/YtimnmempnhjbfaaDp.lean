/-
  THE DATA LEVEL, PART P: further operations.
-/
import Derived.Test.YtimnmempnhjbfaaDo
set_option linter.unusedSimpArgs false
set_option linter.unusedVariables false
namespace Go.Dl
open Go

set_option maxHeartbeats 40000
section
variable {P : Program} {G : Nat → DVal} {N : Fr}
variable {o : Oper} {s : DS} {a : Act} {w : World} {K : DK} {Qx : Exit → Act → World → Prop}

-- nilCheck
theorem s_nilCheck (hS : Sim G N s a w) (hd : dstOk N o.dst = true) {x : Operand} (hx : opdOk N x = true) (he : o.op = .nilCheck x)
    (h : dNilCheck o.dst (dev G s.env x) K s) : PV P o s a w K := by
  have r := rel_dev hS hx
  have r' := r
  cases hv : dev G s.env x <;> rw [hv] at h r r' <;> try exact h.elim
  case vptr cs off =>
    simp only [Rel] at r
    obtain ⟨b, o', xs, hp, hc, hl⟩ := r
    exact pvI hS hd (x := a.eval x) (by simp [execOp, he, hp]) r' h
  case optr r0 off =>
    simp only [Rel] at r
    exact pvI hS hd (x := a.eval x) (by simp [execOp, he, r]) r' h
  case omap r0 =>
    simp only [Rel] at r
    exact pvI hS hd (x := a.eval x) (by simp [execOp, he, r]) r' h
  case iface t0 v0 =>
    simp only [Rel] at r
    obtain ⟨x0, hp, _⟩ := r
    exact pvI hS hd (x := a.eval x) (by simp [execOp, he, hp]) r' h
  case func fn f c =>
    simp only [Rel] at r
    obtain ⟨xs, ys, hp, _, _⟩ := r
    cases fn <;> try exact h.elim
    exact pvI hS hd (x := a.eval x) (by simp [execOp, he, hp]) r' h

-- the rest of the plain ones
theorem s_makeFunc (hS : Sim G N s a w) (hd : dstOk N o.dst = true) {fn : Fn} {fs cs : Array Operand} (hf : fs.toList.all (opdOk N) = true) (hc : cs.toList.all (opdOk N) = true) (he : o.op = .makeFunc fn fs cs)
    (h : dput o.dst (.func fn (devs G s.env fs.toList) (devs G s.env cs.toList)) K s) : PV P o s a w K := by
  refine pvI hS hd (x := .func fn (fs.map a.eval) (cs.map a.eval)) (by simp [execOp, he, Instr.makeFunc]) ?_ h
  simp only [Rel]
  exact ⟨_, _, rfl, by simpa using rel_devs hS hf, by simpa using rel_devs hS hc⟩

theorem s_makeIface (hS : Sim G N s a w) (hd : dstOk N o.dst = true) {t : TypeId} {x : Operand} (hx : opdOk N x = true) (he : o.op = .makeInterface t x)
    (h : dMakeIface t (dev G s.env x) o.dst (notIface (P.underlying t)) K s) : PV P o s a w K := by
  cases hn : notIface (P.underlying t) with
  | false => rw [hn] at h; exact h.elim
  | true =>
    rw [hn] at h
    cases hu : P.underlying t with
    | none => rw [hu] at hn; simp [notIface] at hn
    | some d =>
      refine pvI hS hd (x := .iface t (a.eval x)) ?_ ?_ h
      · rw [hu] at hn
        cases d <;> simp [notIface] at hn <;> simp [execOp, he, Instr.makeInterface, run_underlying hu]
      · simp only [Rel]; exact ⟨_, rfl, rel_dev hS hx⟩

theorem s_extract (hS : Sim G N s a w) (hd : dstOk N o.dst = true) {x : Operand} {i : Nat} (hx : opdOk N x = true) (he : o.op = .extract x i)
    (h : dExtract i o.dst (dev G s.env x) K s) : PV P o s a w K := by
  have r := rel_dev hS hx
  cases hv : dev G s.env x <;> rw [hv] at h r <;> try exact h.elim
  simp only [Rel] at r
  obtain ⟨xs, hp, hl⟩ := r
  obtain ⟨d, hd', hK⟩ := dputO_some h
  obtain ⟨y, hy, hrel⟩ := hl.get hd'
  refine pvI hS hd ?_ hrel hK
  have : xs[i]? = some y := by simpa using hy
  simp [execOp, he, hp, Instr.extract, this]

theorem s_unOp (hS : Sim G N s a w) (hd : dstOk N o.dst = true) {op : UnOp} {t : TypeId} {x : Operand} (hx : opdOk N x = true) (he : o.op = .unOp op t x)
    (h : dUn o.dst op (dev G s.env x) K s) : PV P o s a w K := by
  have r := rel_dev hS hx
  cases hv : dev G s.env x <;> rw [hv] at h r <;> cases op <;> (try exact h.elim) <;> simp only [Rel] at r <;> simp only [dUn] at h
  · exact pvI hS hd (by simp [execOp, he, r, Op.unary]; rfl) (by simp [Rel]) h
  · exact pvI hS hd (by simp [execOp, he, r, Op.unary, Op.intArith]; rfl) (by simp [Rel]) h

theorem s_convert (hS : Sim G N s a w) (hd : dstOk N o.dst = true) {src t : TypeId} {x : Operand} (hx : opdOk N x = true) (he : o.op = .convert src t x)
    (h : dConvert o.dst (P.underlying src) (P.underlying t) (dev G s.env x) K s) : PV P o s a w K := by
  have r := rel_dev hS hx
  cases hs : P.underlying src with
  | none => rw [hs] at h; cases P.underlying t <;> exact h.elim
  | some ds =>
    cases ht : P.underlying t with
    | none => rw [hs, ht] at h; exact h.elim
    | some dt =>
      rw [hs, ht] at h
      cases dt <;> (try exact h.elim)
      case int k =>
        cases hv : dev G s.env x <;> rw [hv] at h r <;> (try exact h.elim)
        simp only [Rel] at r
        rename_i k0 n0
        refine pvI hS hd (x := .int k (k.wrap n0)) ?_ ?_ h
        · simp [execOp, he, r, convert, run_underlying hs, run_underlying ht, Conv.intToInt]
        · simp [Rel]
      case string =>
        cases hv : dev G s.env x <;> rw [hv] at h r <;> (try exact h.elim)
        simp only [Rel] at r
        refine pvI hS hd (x := a.eval x) ?_ ?_ h
        · simp [execOp, he, r, convert, run_underlying hs, run_underlying ht]
        · rw [r]; simp [Rel]


-- arithmetic
theorem op_int {k : IntKind} {n : Int} (hS : Sim G N s a w) (hd : dstOk N o.dst = true) (hrun : (execOp a.eval o).run P w = .ok (.value (.int k n)) w) (hK : dput o.dst (.int k n) K s) : o.wp P a w (NextS G N K s w) Qx :=
  op_value hS hd hrun (by simp [Rel]) hK
theorem op_bool {b : Bool} (hS : Sim G N s a w) (hd : dstOk N o.dst = true) (hrun : (execOp a.eval o).run P w = .ok (.value (.bool b)) w) (hK : dput o.dst (.bool b) K s) : o.wp P a w (NextS G N K s w) Qx :=
  op_value hS hd hrun (by simp [Rel]) hK
theorem eqGuard_dval {op : BinOp} {t : TypeId} {x y : Operand} {u v : Value} (h : ∀ t' z, u = .agg t' → v = .agg z → False) (h2 : u = .nilIface → v = .nilIface → False) : eqGuard op t x y u v = pure () := by
  unfold eqGuard
  cases op <;> (try rfl) <;> (cases u <;> (try rfl) <;> cases v <;> (try rfl)) <;> first | exact (h2 rfl rfl).elim | exact (h _ _ rfl rfl).elim

theorem s_binInt (hS : Sim G N s a w) (hd : dstOk N o.dst = true) {op : BinOp} {t t' : TypeId} {x y : Operand} (he : o.op = .binOp op t x y t') {k k' : IntKind} {m n : Int} (hx : a.eval x = .int k m) (hy : a.eval y = .int k' n)
    (h : dBinI op k k' m n o.dst K s (isShift op)) : PV P o s a w K := by
  have hg : eqGuard op t x y (.int k m) (.int k' n) = pure () := eqGuard_dval (by simp) (by simp)
  cases op <;> simp only [isShift, dBinI, dIntBin, dShift] at h
  case shl =>
    obtain ⟨h0, hK⟩ := h
    refine pvI hS hd (x := .int k (k.wrap (m * 2 ^ (min n.toNat k.bits)))) ?_ (by simp [Rel]) hK
    simp only [execOp, he, hx, hy, hg, binOp, Op.shift, if_neg (Int.not_lt.2 h0)]
    rfl
  case shr =>
    obtain ⟨h0, hK⟩ := h
    refine pvI hS hd (x := .int k (m.fdiv (2 ^ (min n.toNat k.bits)))) ?_ (by simp [Rel]) hK
    simp only [execOp, he, hx, hy, hg, binOp, Op.shift, if_neg (Int.not_lt.2 h0)]
    rfl
  case quo =>
    obtain ⟨rfl, h0, hK⟩ := h
    refine pvI hS hd (x := .int k (k.wrap (m.tdiv n))) ?_ (by simp [Rel]) hK
    simp [execOp, he, hx, hy, hg, binOp, Op.intDiv, h0]
  case rem =>
    obtain ⟨rfl, h0, hK⟩ := h
    refine pvI hS hd (x := .int k (m.tmod n)) ?_ (by simp [Rel]) hK
    simp [execOp, he, hx, hy, hg, binOp, Op.intDiv, h0]
  all_goals
    obtain ⟨rfl, hK⟩ := h
    first | refine pv_int hS hd ?_ hK | refine pv_bool hS hd ?_ hK
    · simp [execOp, he, hx, hy, hg, binOp, Op.intArith, Op.intBits, Op.intCmp, bne, Int.not_le, Int.not_lt] <;> (try (rw [Bool.eq_iff_iff]; simp))

theorem toList_mk (l : List UInt8) : (ByteArray.mk ⟨l⟩).toList = l := by
  have h : ∀ (n i : Nat) (r : List UInt8), l.length - i = n → i ≤ l.length → ByteArray.toList.loop ⟨⟨l⟩⟩ i r = r.reverse ++ l.drop i := by
    intro n
    induction n with
    | zero =>
      intro i r hn hi
      have : i = l.length := by omega
      subst this
      unfold ByteArray.toList.loop
      simp [ByteArray.size]
    | succ n ih =>
      intro i r hn hi
      have hlt : i < l.length := by omega
      unfold ByteArray.toList.loop
      simp only [ByteArray.size, List.size_toArray, hlt, if_true]
      rw [ih (i + 1) _ (by omega) (by omega)]
      have : ByteArray.get! ⟨⟨l⟩⟩ i = l[i] := by simp [ByteArray.get!, hlt]
      rw [this, List.drop_eq_getElem_cons hlt]
      simp
  have := h l.length 0 [] (by simp) (by omega)
  simpa [ByteArray.toList] using this

theorem append_mk (l m : List UInt8) : (ByteArray.mk ⟨l⟩) ++ (ByteArray.mk ⟨m⟩) = ByteArray.mk ⟨l ++ m⟩ := by
  apply ByteArray.ext
  simp

theorem s_binStr (hS : Sim G N s a w) (hd : dstOk N o.dst = true) {op : BinOp} {t t' : TypeId} {x y : Operand} (he : o.op = .binOp op t x y t') {l m : List UInt8} (hx : a.eval x = .string ⟨⟨l⟩⟩) (hy : a.eval y = .string ⟨⟨m⟩⟩)
    (h : dStrBin l m o.dst K s op) : PV P o s a w K := by
  have hg : eqGuard op t x y (.string ⟨⟨l⟩⟩) (.string ⟨⟨m⟩⟩) = pure () := eqGuard_dval (by simp) (by simp)
  have hsz : ∀ l : List UInt8, (ByteArray.mk ⟨l⟩).size = l.length := fun l => rfl
  cases op <;> simp only [dStrBin] at h <;> try exact h.elim
  case add =>
    obtain ⟨h0, hK⟩ := h
    refine pvI hS hd (x := .string ⟨⟨l ++ m⟩⟩) ?_ (by simp [Rel]) hK
    simp only [execOp, he, hx, hy, hg, binOp, Op.stringOp, hsz]
    rw [if_neg (by simp [IntKind.max, IntKind.signed, IntKind.bits]; omega), append_mk]
    rfl
  all_goals
    refine pv_bool hS hd ?_ h
    · simp [execOp, he, hx, hy, hg, binOp, Op.stringOp, toList_mk] <;> (try (rw [Bool.eq_iff_iff]; simp))


theorem run_equal_of {t : TypeId} {x y : Value} {b : Bool} (h : (Op.equal t x y).run P w = .ok b w) {op : BinOp} {n : Bool} (hop : eqOp op = some n) (hx : ∀ k n, x ≠ .int k n) (hs : ∀ l, x ≠ .string l) (hf : ∀ k n, x ≠ .float k n) (hc : ∀ k n m, x ≠ .complex k n m) :
    (binOp op t x y).run P w = .ok (.bool (if n then !b else b)) w := by
  cases op <;> simp [eqOp] at hop <;> subst hop
  · have : binOp .eql t x y = (do pure (.bool (← Op.equal t x y))) := by
      cases x <;> first | rfl | exact absurd rfl (hx _ _) | exact absurd rfl (hs _) | exact absurd rfl (hf _ _) | exact absurd rfl (hc _ _ _)
    rw [this]; simp [h]
  · have : binOp .neq t x y = (do pure (.bool (!(← Op.equal t x y)))) := by
      cases x <;> first | rfl | exact absurd rfl (hx _ _) | exact absurd rfl (hs _) | exact absurd rfl (hf _ _) | exact absurd rfl (hc _ _ _)
    rw [this]; simp [h]

theorem dEqP_some {dst : Option Nat} {n b : Option Bool} (h : dEqP dst n b K s) : ∃ n' b', n = some n' ∧ b = some b' ∧ dput dst (.bool (if n' then !b' else b')) K s := by
  cases n with
  | none => exact h.elim
  | some n => cases b with
    | none => cases n <;> exact h.elim
    | some b => cases n <;> exact ⟨_, b, rfl, rfl, h⟩

theorem andO_some {x y : Option Bool} {b : Bool} (h : andO x y = some b) : ∃ p q, x = some p ∧ y = some q ∧ b = (p && q) := by
  cases x with
  | none => cases h
  | some p => cases y with
    | none => cases p <;> cases h
    | some q =>
      refine ⟨p, q, rfl, rfl, ?_⟩
      cases p <;> cases h <;> rfl

/-- Cells of plain values are those of the model's value. -/
theorem run_part_rel {H : DHeap} {t : TypeId} {ag : Bool} (hag : aggB P t = some ag) {cs : List DVal} {xs : Array Value} (hr : RelL w H cs xs.toList) {off : Nat}
    (hne : ag = false → (partCells (P.cellsOf t) off cs (some ag)) ≠ []) :
    ∃ y, (part t xs off).run P w = .ok y w ∧ RelL w H (partCells (P.cellsOf t) off cs (some ag)) (if ag then y.cells.toList else [y]) ∧ (ag = true → ∃ ys, y = .agg ys) := by
  cases ag with
  | true =>
    have hi := info_of_agg hag
    refine ⟨.agg (xs.extract off (off + P.cellsOf t)), by simp [part, run_isAgg hag, run_sizeOf hi], ?_, fun _ => ⟨_, rfl⟩⟩
    have : (xs.extract off (off + P.cellsOf t)).toList = (xs.toList.drop off).take (P.cellsOf t) := by simp [Array.toList_extract, List.extract]
    simp only [partCells, if_true, Value.cells, this]
    exact (hr.drop off).take _
  | false =>
    have hne := hne rfl
    simp only [partCells] at hne ⊢
    have hlt : off < cs.length := by
      rcases Nat.lt_or_ge off cs.length with h | h
      · exact h
      · rw [List.drop_eq_nil_of_le h] at hne; simp at hne
    have hlx := hr.length
    have hlt' : off < xs.size := by rw [← Array.length_toList, ← hlx]; exact hlt
    refine ⟨xs[off], by simp [part, run_isAgg hag, Array.getElem?_eq_getElem hlt'], ?_, fun h => by cases h⟩
    have h2 := (hr.drop off).take 1
    have : (xs.toList.drop off).take 1 = [xs[off]] := by
      rw [List.drop_eq_getElem_cons (by simpa using hlt')]
      simp
    rw [this] at h2
    simpa using h2

theorem dEqT_nonempty {n : Nat} {t : TypeId} {ys : List DVal} {b : Bool} (hag : aggB P t ≠ some true) (h : dEqT P n t [] ys = some b) : False := by
  cases n with
  | zero => cases h
  | succ n =>
    simp only [dEqT] at h
    unfold aggB at hag
    cases hu : P.underlying t with
    | none => rw [hu] at h; cases h
    | some d =>
      rw [hu] at h hag
      cases d <;> simp [dEqTu, dEqTb, dEqTi, dEqTs] at h hag

theorem dEqT_nonempty' {n : Nat} {t : TypeId} {xs : List DVal} {b : Bool} (hag : aggB P t ≠ some true) (h : dEqT P n t xs [] = some b) : False := by
  cases n with
  | zero => cases h
  | succ n =>
    simp only [dEqT] at h
    unfold aggB at hag
    cases hu : P.underlying t with
    | none => rw [hu] at h; cases h
    | some d =>
      rw [hu] at h hag
      cases d <;> simp at hag <;> simp only [dEqTu, dEqTb, dEqTi, dEqTs] at h <;> first | cases h | (split at h <;> simp_all)

/-- Equality of plain values of type t, whatever their depth. -/
theorem run_equalIn_dEqT {H : DHeap} : ∀ (n d : Nat), n ≤ d → ∀ (t : TypeId) (xs ys : List DVal) (x y : Value) (ag : Bool) (b : Bool), aggB P t = some ag →
    RelL w H xs (if ag then x.cells.toList else [x]) → RelL w H ys (if ag then y.cells.toList else [y]) → (ag = true → ∃ c, x = .agg c) → (ag = true → ∃ c, y = .agg c) → dEqT P n t xs ys = some b →
    (Op.equalIn d t x y).run P w = .ok b w
  | 0, _, _, _, _, _, _, _, _, _, _, _, _, _, _, h => by cases h
  | n + 1, 0, hnd, _, _, _, _, _, _, _, _, _, _, _, _, _ => by omega
  | n + 1, d + 1, hnd, t, xs, ys, x, y, ag, b, hag, hx, hy, gx, gy, h => by
    simp only [dEqT] at h
    cases hu : P.underlying t with
    | none => rw [hu] at h; cases h
    | some td =>
      rw [hu] at h
      have hag' := hag
      unfold aggB at hag'
      rw [hu] at hag'
      have step : ∀ (u : TypeId) (off : Nat) (r : Bool) (cx cy : Array Value), x = .agg cx → y = .agg cy → ag = true → dEqT P n u (partCells (P.cellsOf u) off xs (aggB P u)) (partCells (P.cellsOf u) off ys (aggB P u)) = some r →
          ∃ p q, (part u cx off).run P w = .ok p w ∧ (part u cy off).run P w = .ok q w ∧ (Op.equalIn d u p q).run P w = .ok r w := by
        intro u off r cx cy ex ey hagt hr
        subst ex; subst ey; subst hagt
        simp only [if_true, Value.cells] at hx hy
        cases hau : aggB P u with
        | none =>
          rw [hau] at hr
          exact (dEqT_nonempty (by rw [hau]; simp) hr).elim
        | some au =>
          rw [hau] at hr
          obtain ⟨p, hp, hrp, hgp⟩ := run_part_rel (w := w) hau hx (off := off) (fun e he => by subst e; rw [he] at hr; exact dEqT_nonempty (by rw [hau]; simp) hr)
          obtain ⟨q, hq, hrq, hgq⟩ := run_part_rel (w := w) hau hy (off := off) (fun e he => by subst e; rw [he] at hr; exact dEqT_nonempty' (by rw [hau]; simp) hr)
          exact ⟨p, q, hp, hq, run_equalIn_dEqT n d (by omega) u _ _ p q au r hau hrp hrq hgp hgq hr⟩
      cases td <;> try (cases h; done)
      case bool =>
        simp at hag'; subst hag'
        simp only [dEqTu] at h
        unfold dEqTb at h
        split at h <;> try (cases h; done)
        simp only [Bool.false_eq_true, if_false, RelL, Rel] at hx hy
        obtain ⟨_, _, hx, rfl, rfl⟩ := hx
        obtain ⟨_, _, hy, rfl, rfl⟩ := hy
        simp only [List.cons.injEq, and_true] at hx hy
        subst hx; subst hy
        cases h
        rw [run_equalIn_bool w d t _ _ hu]
        congr 1
      case int k =>
        simp at hag'; subst hag'
        simp only [dEqTu] at h
        unfold dEqTi at h
        split at h <;> try (cases h; done)
        split at h <;> try (cases h; done)
        rename_i hk
        subst hk
        simp only [Bool.false_eq_true, if_false, RelL, Rel] at hx hy
        obtain ⟨_, _, hx, rfl, rfl⟩ := hx
        obtain ⟨_, _, hy, rfl, rfl⟩ := hy
        simp only [List.cons.injEq, and_true] at hx hy
        subst hx; subst hy
        cases h
        simp only [Op.equalIn, Sem.run_bind, run_underlying hu, Result.andThen_ok, if_true, Sem.run_pure]
        congr 1
      case string =>
        simp at hag'; subst hag'
        simp only [dEqTu] at h
        unfold dEqTs at h
        split at h <;> try (cases h; done)
        simp only [Bool.false_eq_true, if_false, RelL, Rel] at hx hy
        obtain ⟨_, _, hx, rfl, rfl⟩ := hx
        obtain ⟨_, _, hy, rfl, rfl⟩ := hy
        simp only [List.cons.injEq, and_true] at hx hy
        subst hx; subst hy
        cases h
        rw [run_equalIn_string (w := w) d t _ _ hu]
        congr 1
        rw [Bool.eq_iff_iff, toList_mk, toList_mk]; simp
      case struct fs =>
        simp at hag'; subst hag'
        obtain ⟨cx, rfl⟩ := gx rfl
        obtain ⟨cy, rfl⟩ := gy rfl
        have hfs : P.fieldsOf t = fs := by simp [Program.fieldsOf, hu]
        simp only [dEqTu] at h
        cases hst : P.stoodInHeld t with
        | true => rw [hst] at h; cases h
        | false =>
          rw [hst] at h
          simp only [dEqTr] at h
          rw [run_equalIn_struct w d t cx cy (by rw [hu, hfs]) hst, hfs]
          generalize fs.toList = l at h
          clear hfs hu hst
          induction l generalizing b with
          | nil => simp only [dEqFs] at h; cases h; simp [Op.eqFields]
          | cons f l ih =>
            simp only [dEqFs] at h
            split at h <;> try (cases h; done)
            rename_i hn
            obtain ⟨p', q', h1, h2, rfl⟩ := andO_some h
            obtain ⟨p, q, r1, r2, r3⟩ := step f.type f.offset p' cx cy rfl rfl rfl h1
            have := ih q' h2
            simp only [Op.eqFields, if_pos hn, Sem.run_bind, r1, r2, r3, Result.andThen_ok]
            cases p'
            · simp
            · simpa using this
      case array m e =>
        simp at hag'; subst hag'
        obtain ⟨cx, rfl⟩ := gx rfl
        obtain ⟨cy, rfl⟩ := gy rfl
        simp only [dEqTu] at h
        cases hie : P.info? e with
        | none => rw [hie] at h; cases h
        | some ie =>
          rw [run_equalIn_array w d cx cy hu hie]
          rw [hie] at h
          simp only [Option.isSome_some, if_true] at h
          generalize List.range m = l at h
          clear hu
          induction l generalizing b with
          | nil => simp only [dEqIs] at h; cases h; simp [Op.eqItems]
          | cons f l ih =>
            simp only [dEqIs] at h
            obtain ⟨p', q', h1, h2, rfl⟩ := andO_some h
            obtain ⟨p, q, r1, r2, r3⟩ := step e (f * P.cellsOf e) p' cx cy rfl rfl rfl h1
            have := ih q' h2
            simp only [Op.eqItems, Sem.run_bind, r1, r2, r3, Result.andThen_ok]
            cases p'
            · simp
            · simpa using this


theorem eqGuard_const {op : BinOp} {t : TypeId} {x y : Operand} (h : (isConst x || isConst y) = true) : eqGuard op t x y .nilIface .nilIface = pure () := by
  unfold eqGuard
  cases x <;> cases y <;> simp [isConst] at h <;> cases op <;> rfl

theorem s_eql {b : Bool} {op : BinOp} {t : TypeId} {x y : Operand} {xv yv : Value} (hS : Sim G N s a w) (hd : dstOk N o.dst = true) {t' : TypeId} (he : o.op = .binOp op t x y t') (hx : a.eval x = xv) (hy : a.eval y = yv)
    (hg : eqGuard op t x y xv yv = pure ()) (hr : (Op.equal t xv yv).run P w = .ok b w) (h1 : ∀ k n, xv ≠ .int k n) (h2 : ∀ l, xv ≠ .string l) (h3 : ∀ k n, xv ≠ .float k n) (h4 : ∀ k n m, xv ≠ .complex k n m)
    (h : dEqP o.dst (eqOp op) (some b) K s) : PV P o s a w K := by
  obtain ⟨n, b', hn, hb, hK⟩ := dEqP_some h
  cases hb
  have := run_equal_of (P := P) hr hn h1 h2 h3 h4
  refine pv_bool hS hd (b := if n then !b else b) ?_ hK
  simp [execOp, he, hx, hy, hg, this]

set_option maxHeartbeats 400000 in
theorem s_dEql (hS : Sim G N s a w) (hd : dstOk N o.dst = true) {op : BinOp} {t t' : TypeId} {x y : Operand} (he : o.op = .binOp op t x y t') {dx dy : DVal} (rx : Rel w s.heap dx (a.eval x)) (ry : Rel w s.heap dy (a.eval y))
    (h : dEqP o.dst (eqOp op) (dEql (isConst x || isConst y) (P.underlying t) dx dy) K s) : PV P o s a w K := by
  obtain ⟨n, b, hn, hb, hK⟩ := dEqP_some h
  rw [hb] at h
  unfold dEql at hb
  have key : ∀ xv yv, a.eval x = xv → a.eval y = yv → eqGuard op t x y xv yv = pure () → (∀ d, (Op.equalIn (d + 1) t xv yv).run P w = .ok b w) → (∀ k n, xv ≠ .int k n) → (∀ l, xv ≠ .string l) → (∀ k n, xv ≠ .float k n) → (∀ k n m, xv ≠ .complex k n m) → PV P o s a w K :=
    fun xv yv e1 e2 e3 e4 e5 e6 e7 e8 => s_eql hS hd he e1 e2 e3 (e4 9999) e5 e6 e7 e8 h
  split at hb <;> (try (cases hb; done)) <;> simp only [Rel] at rx ry
  case h_1 hu => exact key _ _ rx ry (eqGuard_dval (by simp) (by simp)) (by cases hb; exact fun d => run_equalIn_bool w d t _ _ hu) (by simp) (by simp) (by simp) (by simp)
  case h_2 hu => exact key _ _ rx ry (eqGuard_dval (by simp) (by simp)) (by cases hb; intro d; simp [Op.equalIn, run_underlying hu]) (by simp) (by simp) (by simp) (by simp)
  case h_3 hu => exact key _ _ rx ry (eqGuard_dval (by simp) (by simp)) (by cases hb; intro d; simp [Op.equalIn, run_underlying hu]) (by simp) (by simp) (by simp) (by simp)
  case h_4 hu =>
    obtain ⟨_, _, _, ry, _⟩ := ry
    exact key _ _ rx ry (eqGuard_dval (by simp) (by simp)) (by cases hb; intro d; simp [Op.equalIn, run_underlying hu]) (by simp) (by simp) (by simp) (by simp)
  case h_5 hu => exact key _ _ rx ry (eqGuard_dval (by simp) (by simp)) (by cases hb; intro d; simp [Op.equalIn, run_underlying hu]) (by simp) (by simp) (by simp) (by simp)
  case h_6 hu =>
    obtain ⟨_, _, _, rx, _⟩ := rx
    exact key _ _ rx ry (eqGuard_dval (by simp) (by simp)) (by cases hb; intro d; simp [Op.equalIn, run_underlying hu]) (by simp) (by simp) (by simp) (by simp)
  case h_7 hu =>
    obtain ⟨_, ry, _⟩ := ry
    exact key _ _ rx ry (eqGuard_dval (by simp) (by simp)) (by cases hb; intro d; simp [Op.equalIn, run_underlying hu]) (by simp) (by simp) (by simp) (by simp)
  case h_8 hu =>
    obtain ⟨_, rx, _⟩ := rx
    exact key _ _ rx ry (eqGuard_dval (by simp) (by simp)) (by cases hb; intro d; simp [Op.equalIn, run_underlying hu]) (by simp) (by simp) (by simp) (by simp)
  case h_9 hu =>
    split at hb <;> (try (cases hb; done))
    rename_i hc
    exact key _ _ rx ry (eqGuard_const hc) (by cases hb; intro d; simp [Op.equalIn, run_underlying hu]) (by simp) (by simp) (by simp) (by simp)
  case h_10 hu => exact key _ _ rx ry (eqGuard_dval (by simp) (by simp)) (by cases hb; intro d; simp [Op.equalIn, run_underlying hu]) (by simp) (by simp) (by simp) (by simp)
  case h_11 hu =>
    obtain ⟨_, _, rx, _⟩ := rx
    exact key _ _ rx ry (eqGuard_dval (by simp) (by simp)) (by cases hb; intro d; simp [Op.equalIn, run_underlying hu]) (by simp) (by simp) (by simp) (by simp)
  case h_12 hu =>
    obtain ⟨_, _, ry, _⟩ := ry
    exact key _ _ rx ry (eqGuard_dval (by simp) (by simp)) (by cases hb; intro d; simp [Op.equalIn, run_underlying hu]) (by simp) (by simp) (by simp) (by simp)
  case h_13 hu => exact key _ _ rx ry (eqGuard_dval (by simp) (by simp)) (by cases hb; intro d; simp [Op.equalIn, run_underlying hu]) (by simp) (by simp) (by simp) (by simp)
  case h_14 hu =>
    obtain ⟨_, _, rx, _⟩ := rx
    exact key _ _ rx ry (eqGuard_dval (by simp) (by simp)) (by cases hb; intro d; simp [Op.equalIn, run_underlying hu]) (by simp) (by simp) (by simp) (by simp)
  case h_15 hu =>
    obtain ⟨_, _, ry, _⟩ := ry
    exact key _ _ rx ry (eqGuard_dval (by simp) (by simp)) (by cases hb; intro d; simp [Op.equalIn, run_underlying hu]) (by simp) (by simp) (by simp) (by simp)

theorem s_binOp (hS : Sim G N s a w) (hd : dstOk N o.dst = true) {op : BinOp} {t t' : TypeId} {x y : Operand} (hx : opdOk N x = true) (hy : opdOk N y = true) (he : o.op = .binOp op t x y t')
    (h : dBin P t (isConst x || isConst y) op o.dst (dev G s.env x) (dev G s.env y) K s) : PV P o s a w K := by
  have rx := rel_dev hS hx
  have ry := rel_dev hS hy
  generalize dev G s.env x = dx at h rx
  generalize dev G s.env y = dy at h ry
  unfold dBin at h
  split at h
  · simp only [Rel] at rx ry
    exact s_binInt hS hd he rx ry h
  · simp only [Rel] at rx ry
    exact s_binStr hS hd he rx ry h
  · rename_i xs ys
    obtain ⟨hag, hge, h⟩ := h
    simp only [Rel] at rx ry
    obtain ⟨vx, hxv, rlx⟩ := rx
    obtain ⟨vy, hyv, rly⟩ := ry
    obtain ⟨n, b, hn, hb, hK⟩ := dEqP_some h
    have hrun := run_equalIn_dEqT (w := w) (H := s.heap) 6 10000 (by omega) t _ _ (.agg vx) (.agg vy) true b hag (by simpa [Value.cells] using rlx) (by simpa [Value.cells] using rly) (fun _ => ⟨_, rfl⟩) (fun _ => ⟨_, rfl⟩) hb
    have hgd : (eqGuard op t x y (.agg vx) (.agg vy)).run P w = .ok () w := by
      unfold eqGuard
      cases op <;> simp [program, Sem.run, hge]
    have hrb := run_equal_of (P := P) (w := w) (t := t) (x := .agg vx) (y := .agg vy) (b := b) hrun hn (by simp) (by simp) (by simp) (by simp)
    refine pv_bool hS hd (b := if n then !b else b) ?_ hK
    simp [execOp, he, hxv, hyv, hgd, hrb]
  · exact s_dEql hS hd he rx ry h

theorem run_equalIn_nilS {t e : TypeId} (hu : P.underlying t = some (.slice e)) (d : Nat) {ad : Option Addr} {n cap : Nat} : (Op.equalIn (d + 1) t (.slice ad n cap) (.slice none 0 0)).run P w = .ok ad.isNone w := by
  cases ad <;> simp [Op.equalIn, run_underlying hu]

theorem s_binX (hS : Sim G N s a w) (hd : dstOk N o.dst = true) {op : BinOp} {t t' : TypeId} {x y : Operand} (hx : opdOk N x = true) (hy : opdOk N y = true) (he : o.op = .binOp op t x y t')
    (h : dBinX P t (isConst x || isConst y) op o.dst (isNilS y) (dev G s.env x) (dev G s.env y) K s) : PV P o s a w K := by
  cases hn : isNilS y with
  | false =>
    rw [hn, dBinX_false] at h
    exact s_binOp hS hd hx hy he h
  | true =>
    rw [hn] at h
    by_cases hv : ∃ cs n, dev G s.env x = .vslice cs n
    · obtain ⟨cs, n, hv⟩ := hv
      have rx := rel_dev hS hx
      rw [hv] at h rx
      simp only [dBinX] at h
      obtain ⟨ht, h⟩ := h
      simp only [Rel] at rx
      obtain ⟨ad, cap, hev, hle, hcs⟩ := rx
      have hyv : a.eval y = .slice none 0 0 := by
        unfold isNilS at hn
        split at hn <;> first | rfl | cases hn
      cases hu : P.underlying t with
      | none => rw [hu] at ht; cases ht
      | some d =>
        rw [hu] at ht
        cases d <;> first | (cases ht; done) | skip
        refine s_eql hS hd he hev hyv (b := ad.isNone) (eqGuard_dval (by simp) (by simp)) ?_ (by simp) (by simp) (by simp) (by simp) (h ad.isNone ?_)
        · exact run_equalIn_nilS hu 9999
        · intro hc
          rcases hcs with hcs | ⟨b, o', xs, rfl, _⟩
          · exact (hc hcs).elim
          · rfl
    · refine s_binOp hS hd hx hy he ?_
      revert h hv
      generalize dev G s.env x = dx
      intro h hv
      cases dx <;> first | exact h | exact (hv ⟨_, _, rfl⟩).elim

end
end Go.Dl
