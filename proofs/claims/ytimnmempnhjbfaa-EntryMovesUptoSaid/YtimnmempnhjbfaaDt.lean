/-
  THE DATA LEVEL, PART T: further operations: type assertions, built-in functions, calls.
-/
import Derived.Test.YtimnmempnhjbfaaDr
set_option linter.unusedSimpArgs false
set_option linter.unusedVariables false
namespace Go.Dl
open Go

section
variable {P : Program} {G : Nat → DVal} {N : Fr}
variable {o : Oper} {s : DS} {a : Act} {w : World} {K : DK} {Q : DExit → DS → Prop} {Qx : Exit → Act → World → Prop}

theorem notIface_some {t : TypeId} (h : notIface (P.underlying t) = true) : ∃ d, P.underlying t = some d ∧ ∀ m, d ≠ .interface m := by
  cases hu : P.underlying t with
  | none => rw [hu] at h; cases h
  | some d => refine ⟨d, rfl, fun m e => ?_⟩; rw [hu, e] at h; cases h

theorem s_typeAssert (hS : Sim G N s a w) (hd : dstOk N o.dst = true) {x : Operand} {xt t : TypeId} {ok : Bool} (hx : opdOk N x = true) (he : o.op = .typeAssert x xt t ok)
    (h : dTypeAssert P t ok o.dst (notIface (P.underlying t)) (dev G s.env x) K s) : PV P o s a w K := by
  have rx := rel_dev hS hx
  generalize hn : notIface (P.underlying t) = nb at h
  generalize dev G s.env x = dx at h rx
  unfold dTypeAssert at h
  split at h
  · rename_i t0 v0
    obtain ⟨d, hu, hni⟩ := notIface_some hn
    simp only [Rel] at rx
    obtain ⟨y, hp, hy⟩ := rx
    have hrun : (execOp a.eval o).run P w = ((Instr.typeAssert (.iface t0 y) xt t ok).run P w).andThen fun v w' => .ok (.value v) w' := by
      simp [execOp, he, hp]
    have hta : (Instr.typeAssert (.iface t0 y) xt t ok).run P w = if t0 = t then .ok (if ok then .tuple #[y, .bool true] else y) w else ((if ok then (do pure (.tuple #[← zeroValue t, .bool false])) else runtimePanic (.typeAssertion (some xt) (some t0) t "")) : Sem Value).run P w := by
      simp only [Instr.typeAssert, Sem.run_bind, run_underlying hu, Result.andThen_ok]
      cases d <;> first | exact absurd rfl (hni _) | (by_cases e : t0 = t <;> simp [e])
    by_cases e : t0 = t
    · subst e
      simp only [decide_true] at h
      rw [hta, if_pos rfl] at hrun
      cases ok
      · exact pvI hS hd hrun hy h
      · refine pvI hS hd hrun ?_ h
        simp only [Rel]
        exact ⟨_, rfl, by simp only [if_true, RelL, Rel]; exact ⟨_, _, rfl, hy, _, _, rfl, rfl, rfl⟩⟩
    · simp only [e, decide_false] at h
      cases ok
      · exact h.elim
      · simp only [dAssertIs] at h
        cases hz : zeroOf P t with
        | none => rw [hz] at h; exact h.elim
        | some z =>
          rw [hz] at h
          obtain ⟨i, v, hi, hiz, rfl⟩ := zero_info hz
          have hzv : (zeroValue t).run P w = .ok v w := by simp [zeroValue, run_typeInfo hi, hiz]
          rw [hta, if_neg e] at hrun
          refine pvI hS hd (x := .tuple #[v, .bool false]) (by rw [hrun]; simp [hzv]) ?_ h
          simp only [Rel]
          exact ⟨_, rfl, by simp only [RelL, Rel]; exact ⟨_, _, rfl, rel_ofVal w s.heap v, _, _, rfl, rfl, rfl⟩⟩
  · obtain ⟨d, hu, hni⟩ := notIface_some hn
    obtain ⟨rfl, h⟩ := h
    simp only [Rel] at rx
    cases hz : zeroOf P t with
    | none => rw [hz] at h; exact h.elim
    | some z =>
      rw [hz] at h
      obtain ⟨i, v, hi, hiz, rfl⟩ := zero_info hz
      have hzv : (zeroValue t).run P w = .ok v w := by simp [zeroValue, run_typeInfo hi, hiz]
      refine pvI hS hd (x := .tuple #[v, .bool false]) ?_ ?_ h
      · simp only [execOp, he, rx, Instr.typeAssert, Sem.run_bind, run_underlying hu, Result.andThen_ok]
        cases d <;> first | exact absurd rfl (hni _) | simp [hzv]
      · simp only [Rel]
        exact ⟨_, rfl, by simp only [RelL, Rel]; exact ⟨_, _, rfl, rel_ofVal w s.heap v, _, _, rfl, rfl, rfl⟩⟩
  · exact h.elim

-- built-in functions
theorem exec_builtin {c : Call} {b : Builtin} (he : o.op = .call c) (hc : c.callee = .builtin b) :
    execOp a.eval o = builtin b c.argTypes o.type (c.args.map fun | .const _ => true | _ => false) (c.args.map a.eval) := by
  simp only [execOp, he, resolve, hc]
  rfl

theorem devs_one {xs : List Operand} {d : DVal} (h : devs G s.env xs = [d]) : ∃ x, xs = [x] ∧ dev G s.env x = d := by
  cases xs with
  | nil => simp [devs] at h
  | cons x xs => cases xs with
    | nil => simp [devs] at h; exact ⟨x, rfl, h⟩
    | cons y ys => simp [devs] at h
theorem devs_two {xs : List Operand} {d e : DVal} (h : devs G s.env xs = [d, e]) : ∃ x y, xs = [x, y] ∧ dev G s.env x = d ∧ dev G s.env y = e := by
  cases xs with
  | nil => simp [devs] at h
  | cons x xs => cases xs with
    | nil => simp [devs] at h
    | cons y ys => cases ys with
      | nil => simp [devs] at h; exact ⟨x, y, rfl, h.1, h.2⟩
      | cons z zs => simp [devs] at h

theorem s_len (hS : Sim G N s a w) (hd : dstOk N o.dst = true) {c : Call} {x : Operand} (hx : opdOk N x = true) (he : o.op = .call c) (hc : c.callee = .builtin .len) (hargs : c.args.toList = [x]) {t : TypeId} (hts : c.argTypes.toList = [t])
    (h : dLen o.dst (P.underlying t) (dev G s.env x) K s) : PV P o s a w K := by
  have rx := rel_dev hS hx
  have hm : c.args.map a.eval = #[a.eval x] := by apply Array.ext'; simp [hargs]
  have hex := exec_builtin (a := a) he hc
  rw [hm] at hex
  have ht' : c.argTypes[0]? = some t := by rw [← Array.getElem?_toList, hts]; rfl
  generalize hu : P.underlying t = u at h
  generalize dev G s.env x = dx at h rx
  unfold dLen at h
  split at h
  · simp only [Rel] at rx
    exact pv_int hS hd (by rw [hex]; simp [builtin, Builtin.len_, ht', run_underlying hu, rx, goInt]; rfl) h
  · exact pv_int hS hd (by rw [hex]; simp [builtin, Builtin.len_, ht', run_underlying hu, goInt]) h
  · simp only [Rel] at rx
    exact pv_int hS hd (by rw [hex]; simp [builtin, Builtin.len_, ht', run_underlying hu, rx, goInt]) h
  · simp only [Rel] at rx
    obtain ⟨_, _, rx, _⟩ := rx
    exact pv_int hS hd (by rw [hex]; simp [builtin, Builtin.len_, ht', run_underlying hu, rx, goInt]) h
  · simp only [Rel] at rx
    obtain ⟨_, _, rx, _⟩ := rx
    exact pv_int hS hd (by rw [hex]; simp [builtin, Builtin.len_, ht', run_underlying hu, rx, goInt]) h
  · exact h.elim

theorem minMaxL_rel {H : DHeap} (isMax : Bool) : ∀ (ys : List DVal) (vs : List Value) (x : DVal) (v : Value) (r : DVal), RelL w H ys vs → Rel w H x v → dMinMaxL isMax (some x) ys = some r →
    ∃ u, (vs.foldlM (if isMax then Builtin.max2 else Builtin.min2) v).run P w = .ok u w ∧ Rel w H r u
  | [], vs, x, v, r, hl, hx, h => by
    simp only [RelL] at hl; subst hl
    simp only [dMinMaxL] at h; cases h
    exact ⟨v, by simp, hx⟩
  | y :: ys, vs, x, v, r, hl, hx, h => by
    simp only [RelL] at hl
    obtain ⟨u, us, rfl, hy, hl⟩ := hl
    simp only [dMinMaxL] at h
    cases hm : dMM isMax x y with
    | none => rw [hm] at h; cases ys <;> cases h
    | some z =>
      rw [hm] at h
      unfold dMM at hm
      split at hm <;> try (cases hm; done)
      rename_i k m k' n
      simp only [Rel] at hx hy
      subst hx; subst hy
      cases hm
      obtain ⟨q, hq, hr⟩ := minMaxL_rel isMax ys us _ (.int k (if isMax then (if n > m then n else m) else (if n < m then n else m))) r hl (by simp [Rel]) h
      refine ⟨q, ?_, hr⟩
      cases isMax
      · simpa [Builtin.min2] using hq
      · simpa [Builtin.max2] using hq

theorem s_minmax (hS : Sim G N s a w) (hd : dstOk N o.dst = true) {c : Call} {isMax : Bool} (hx : c.args.toList.all (opdOk N) = true) (he : o.op = .call c) (hc : c.callee = .builtin (if isMax then .max else .min))
    (h : dputO o.dst (dMinMax isMax (devs G s.env c.args.toList)) K s) : PV P o s a w K := by
  have rl := rel_devs hS hx
  have hex := exec_builtin (a := a) he hc
  obtain ⟨d, hd', hK⟩ := dputO_some h
  have hm : (c.args.map a.eval).toList = c.args.toList.map a.eval := by simp
  generalize hvs : c.args.toList.map a.eval = vs at rl hm
  generalize devs G s.env c.args.toList = ds at rl hd'
  cases ds with
  | nil => cases hd'
  | cons x rest =>
    simp only [RelL] at rl
    obtain ⟨v, us, rfl, hx', hl⟩ := rl
    simp only [dMinMax] at hd'
    obtain ⟨u, hu, hr⟩ := minMaxL_rel (P := P) isMax rest us x v d hl hx' hd'
    refine pvI hS hd ?_ hr hK
    rw [hex]
    cases isMax
    · simp at hu
      simp only [builtin, Builtin.min_, hm, Bool.false_eq_true, if_false, Sem.run_bind, hu, Result.andThen_ok, Sem.run_pure]
    · simp at hu
      simp only [builtin, Builtin.max_, hm, if_true, Sem.run_bind, hu, Result.andThen_ok, Sem.run_pure]

theorem s_panic {x : DVal} {v : Value} (hS : Sim G N s a w) (hrun : (execOp a.eval o).run P w = ((Instr.panic v).run P w).andThen fun v w' => .ok (.value v) w') (hv : Rel w s.heap x v) (h : dPanic Q s x) {next : Act → World → Prop} : o.wp P a w next (ExitS G N Q s w) := by
  unfold dPanic at h
  split at h <;> try exact h.elim
  have hv' := hv
  simp only [Rel] at hv
  obtain ⟨y, rfl, hy⟩ := hv
  unfold Oper.wp
  rw [hrun]
  simp only [Instr.panic, goPanic, Sem.run_halt, Result.andThen_halt]
  exact ⟨_, s, h, .panic _ _ hv', hS, Ext.refl _ _⟩


end
end Go.Dl
