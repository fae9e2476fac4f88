/-
  THE DATA LEVEL, PART C: cap, clear, append of zeros.
-/
import Derived.Test.YtimnmempnhjbfaaDu
set_option linter.unusedSimpArgs false
set_option linter.unusedVariables false
namespace Go.Dl
open Go

section
variable {P : Program} {G : Nat → DVal} {N : Fr}
variable {o : Oper} {s : DS} {a : Act} {w : World} {K : DK} {Qx : Exit → Act → World → Prop}

theorem s_cap (hS : Sim G N s a w) (hd : dstOk N o.dst = true) {c : Call} {x : Operand} {t : TypeId} (hx : opdOk N x = true) (he : o.op = .call c) (hc : c.callee = .builtin .cap) (hargs : c.args.toList = [x]) (hts : c.argTypes.toList = [t])
    (h : dCap o.dst (P.underlying t) (dev G s.env x) K s) : PV P o s a w K := by
  have rx := rel_dev hS hx
  have hm : c.args.map a.eval = #[a.eval x] := by apply Array.ext'; simp [hargs]
  have hex := exec_builtin (a := a) he hc
  rw [hm] at hex
  have ht' : c.argTypes[0]? = some t := by rw [← Array.getElem?_toList, hts]; rfl
  generalize hu : P.underlying t = u at h
  generalize dev G s.env x = dx at h rx
  unfold dCap at h
  split at h
  · simp only [Rel] at rx
    exact pv_int hS hd (by rw [hex]; simp [builtin, Builtin.cap_, ht', run_underlying hu, rx, goInt]) h
  · simp only [Rel] at rx
    obtain ⟨_, cap, rx, hle, _⟩ := rx
    exact pv_int hS hd (by rw [hex]; simp [builtin, Builtin.cap_, ht', run_underlying hu, rx, goInt]) (h cap hle)
  · simp only [Rel] at rx
    obtain ⟨_, cap, rx, h1, h2, _⟩ := rx
    exact pv_int hS hd (by rw [hex]; simp [builtin, Builtin.cap_, ht', run_underlying hu, rx, goInt]) (h cap h2 h1)
  · exact h.elim

theorem run_append_make {e t t' ty : TypeId} {i : TypeInfo} {z : Value} {k : IntKind} (ht : P.underlying t = some (.slice e)) (hu : P.underlying t' = some (.int k)) (hi : P.info? e = some i) (hz : i.zero = some z) (hp : 0 < i.size)
    {n : Int} (h0 : 0 < n) (hfit : n * i.bytes ≤ 35184372088832) (hn : n ≤ 35184372088832) :
    ∃ c, n.toNat ≤ c ∧ (Builtin.append_ #[t, t'] ty #[.slice none 0 0, .int .i64 n]).run P w =
      .ok (.slice (some ⟨w.heap.size, 0, none⟩) n.toNat c) { w.alloc (.cells (#[] ++ (Builtin.zeroCells z.cells n.toNat ++ Builtin.zeroCells z.cells (c - n.toNat))) e) with drawn := w.drawn + 1 } := by
  obtain ⟨m, rfl⟩ : ∃ m : Nat, n = m := ⟨n.toNat, by omega⟩
  simp only [Int.toNat_natCast]
  have hw : IntKind.wrap .i64 (m : Int) = m := IntWalk.i64_in m ⟨by omega, by omega⟩
  have hfit' : m * i.bytes ≤ 35184372088832 := by
    have : ((m * i.bytes : Nat) : Int) ≤ 35184372088832 := by rw [Int.natCast_mul]; exact hfit
    omega
  refine ⟨(Question.appendCap m 0 e).cut (w.tape w.drawn (.appendCap m 0 e)), by simp [Question.cut], ?_⟩
  have h48 : ¬ (Builtin.nextslicecap m 0 * i.bytes > 281474976710656) := by
    have := growslice_fits (need := m) (old := 0) (bytes := i.bytes) (by omega) (by omega)
    omega
  have h1 : ¬ ((m : Int) < 0) := by omega
  have h2 : ¬ (281474976710656 < (m : Int) * (i.bytes : Int)) := by omega
  have h3 : ¬ (9223372036854775807 < (m : Int)) := by omega
  have h4 : m ≠ 0 := by omega
  have h5 : ¬ (m * i.size = 0) := by
    intro e; rcases Nat.mul_eq_zero.1 e with e | e <;> omega
  have hf := firstCells_none (P := P) (w := w) i.size (w.drawn + 1)
  simp only [World.drew_eq] at hf
  simp [hf, Builtin.append_, run_underlying ht, run_underlying hu, sizeOf, typeInfo, zeroValue, hi, hz, asInt, asIntOf, hw, h1, h2, h3, h4, h5, h48, Question.forced, newRow, firstCells_none]
  rfl

theorem s_appendX (hS : Sim G N s a w) (hd : dstOk N o.dst = true) {c : Call} {x y : Operand} (hx : opdOk N x = true) (hy : opdOk N y = true) (he : o.op = .call c) (hc : c.callee = .builtin .append) (hargs : c.args.toList = [x, y]) {t t' : TypeId} (htys : c.argTypes.toList = [t, t'])
    (hit : isIntT (P.underlying t') = true) (h : dAppendX P (dev G s.env x) (dev G s.env y) o.dst (P.underlying t) K s) : o.wp P a w (NextS G N K s w) Qx := by
  have rx := rel_dev hS hx
  have ry := rel_dev hS hy
  have hm : c.args.map a.eval = #[a.eval x, a.eval y] := by apply Array.ext'; simp [hargs]
  have hat : c.argTypes = #[t, t'] := by apply Array.ext'; simp [htys]
  have hex : execOp a.eval o = (do pure (.value (← Builtin.append_ #[t, t'] o.type #[a.eval x, a.eval y]))) := by
    rw [exec_builtin he hc, hm, hat]; rfl
  generalize hut : P.underlying t = ut at h
  unfold dAppendX at h
  split at h <;> try exact h.elim
  rename_i e
  obtain ⟨k, hu⟩ : ∃ k, P.underlying t' = some (.int k) := by
    cases hq : P.underlying t' with
    | none => rw [hq] at hit; cases hit
    | some d => cases d <;> first | exact ⟨_, rfl⟩ | (rw [hq] at hit; cases hit)
  generalize dev G s.env x = dx at h rx
  generalize dev G s.env y = dy at h ry
  generalize hzo : zeroOf P e = zo at h
  unfold dAppendI at h
  split at h <;> try exact h.elim
  obtain ⟨h0, hp, hk0, hk1⟩ := h
  rename_i n zd
  obtain ⟨i, z, hi, hiz, rfl⟩ := zero_info hzo
  have hby : P.bytesOf e = i.bytes := by simp [Program.bytesOf, hi]
  have hcs : P.cellsOf e = i.size := by simp [Program.cellsOf, hi]
  simp only [Rel] at rx ry
  by_cases hn : n = 0
  · have hK := hk0 hn
    subst hn
    refine op_value hS hd (x := .slice none 0 0) ?_ (by simp [Rel]) hK
    rw [hex, rx, ry]
    have hw : IntKind.wrap .i64 0 = 0 := by rfl
    simp [Builtin.append_, run_underlying hut, run_underlying hu, sizeOf, typeInfo, hi, asInt, asIntOf, hw]
  · obtain ⟨hfit, hle, hzl, hK⟩ := hk1 hn
    rw [hby] at hfit
    rw [hcs] at hp hzl hK
    have hvr : RelL w s.heap (ofVal z).cells z.cells.toList := cells_rel (rel_ofVal w s.heap z)
    have hzs : z.cells.size = i.size := by rw [← hzl, hvr.length]; simp
    obtain ⟨cp, hcp, hrun⟩ := run_append_make (w := w) (ty := o.type) hut hu hi hiz hp (n := n) (by omega) hfit hle
    have hr := relL_repl hvr n.toNat (n.toNat * z.cells.size) (by rw [hzl, hzs])
    refine op_newS hS hd (sz := i.size) (lo := n.toNat) (cap := cp) (n := w.drawn + 1) (len := n.toNat) (e := e) (c := #[] ++ (Builtin.zeroCells z.cells n.toNat ++ Builtin.zeroCells z.cells (cp - n.toNat))) (by omega) (by omega) ?_ ?_ hr ?_ hK
    · simp only [Array.size_append, size_zeroCells, hzs, List.size_toArray, List.length_nil, Nat.zero_add]
      rw [← Nat.add_mul]
      exact Nat.mul_le_mul_right _ (by omega)
    · rw [hex, rx, ry]
      simp [hrun]
    · simp only [Array.toList_append, List.nil_append]
      exact prefix_app _ _

theorem s_clear (hS : Sim G N s a w) (hd : dstOk N o.dst = true) {c : Call} {x : Operand} {t : TypeId} (hx : opdOk N x = true) (he : o.op = .call c) (hc : c.callee = .builtin .clear) (hargs : c.args.toList = [x]) (hts : c.argTypes.toList = [t])
    (h : dClear P o.dst (P.underlying t) (dev G s.env x) K s) : o.wp P a w (NextS G N K s w) Qx := by
  have rx := rel_dev hS hx
  have hm : c.args.map a.eval = #[a.eval x] := by apply Array.ext'; simp [hargs]
  have hex := exec_builtin (a := a) he hc
  rw [hm] at hex
  have ht' : c.argTypes[0]? = some t := by rw [← Array.getElem?_toList, hts]; rfl
  generalize hu : P.underlying t = u at h
  generalize dev G s.env x = dx at h rx
  unfold dClear at h
  split at h <;> try exact h.elim
  rename_i e
  generalize hzo : zeroOf P e = zo at h
  unfold dClearS at h
  split at h <;> try exact h.elim
  · simp only [Rel] at rx
    refine op_value hS hd (x := .tuple #[]) ?_ (by simp [Rel, RelL]) h
    rw [hex]; simp [builtin, Builtin.clear_, ht', run_underlying hu, rx]
  · rename_i z sz r off n lo
    obtain ⟨rfl, hnl, h⟩ := h
    obtain ⟨i, v, hi, hiz, rfl⟩ := zero_info hzo
    have hcs : P.cellsOf e = i.size := by simp [Program.cellsOf, hi]
    simp only [Rel] at rx
    obtain ⟨o', cap, hp, hlo, hcap, hoff, hroom⟩ := rx
    cases hh : s.heap r with
    | none => rw [hh] at h; exact h.elim
    | some ob =>
      cases ob with
      | loop => rw [hh] at h; exact h.elim
      | map => rw [hh] at h; exact h.elim
      | cells cs e' =>
        rw [hh] at h
        obtain ⟨hzl, hone, hle, hK⟩ := h
        rw [hcs] at hzl hle
        have hvr : RelL w s.heap (ofVal v).cells v.cells.toList := cells_rel (rel_ofVal w s.heap v)
        have hzs : v.cells.size = i.size := by rw [← hzl, hvr.length]; simp
        by_cases hn : n = 0
        · subst hn
          have hsp : splice cs off (repl 0 (ofVal v).cells) = cs := by simp [splice, repl]
          rw [hsp] at hK
          have hup : upd s.heap r (some (.cells cs e')) = s.heap := by
            funext j; simp only [upd]; split
            · rename_i hj; rw [hj, hh]
            · rfl
          rw [hup] at hK
          refine op_value hS hd (x := .tuple #[]) ?_ (by simp [Rel, RelL]) hK
          rw [hex]; simp [builtin, Builtin.clear_, ht', run_underlying hu, hp]
        · have : o' = off := hoff.resolve_left (by omega)
          subst this
          have hr := relL_repl hvr n (n * v.cells.size) (by rw [hzl, hzs])
          have hall : (repl n (ofVal v).cells).all (·.one) = true := by
            rw [List.all_eq_true] at hone ⊢
            intro d hd'
            simp only [repl, List.mem_flatten, List.mem_replicate] at hd'
            obtain ⟨l, ⟨_, rfl⟩, hm⟩ := hd'
            exact hone d hm
          obtain ⟨w', hst, hH, hE⟩ := store_own (P := P) hS.heap hh hr hall (off := o') (by rw [repl_length, hzl]; exact hle)
          refine op_world hS hd (x := .tuple #[]) ?_ hE hH (by simp [Rel, RelL]) hK
          rw [hex]
          obtain ⟨n', rfl⟩ : ∃ n', n = n' + 1 := ⟨n - 1, by omega⟩
          have hst' : Sem.run P (storeCells ⟨r, o', none⟩ (Builtin.zeroCells v.cells (n' + 1)).toList 0) w = .ok () w' := hst
          simp [builtin, Builtin.clear_, ht', run_underlying hu, hp, zeroValue, typeInfo, hi, hiz, hst']

end
end Go.Dl
