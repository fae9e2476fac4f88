/-
  THE DATA LEVEL, PART V: calls, regions, code: what the data level says of a piece of code is true of the model's.
-/
import Derived.Test.YtimnmempnhjbfaaDm
set_option linter.unusedSimpArgs false
set_option linter.unusedVariables false
namespace Go.Dl
open Go

section
variable {P : Program} {G : Nat → DVal} {N : Fr}
variable {o : Oper} {s s0 : DS} {a : Act} {w w0 : World} {K : DK} {Q : DExit → DS → Prop}

theorem DCalls.mono {f : FuncId} {args : List DVal} {H : DHeap} {R R' : DEnd → DHeap → Prop} (h : DCalls P G f args H R) (hr : ∀ e H', R e H' → R' e H') : DCalls P G f args H R' :=
  ⟨h.1, fun vs w hv hH hG => (h.2 vs w hv hH hG).mono fun e w' ⟨e', H', r, k⟩ => ⟨e', H', hr _ _ r, k⟩⟩

theorem DYields.mono {l : Nat} {args : List DVal} {H : DHeap} {R R' : DEnd → DHeap → Prop} (h : DYields P G l args H R) (hr : ∀ e H', R e H' → R' e H') : DYields P G l args H R' :=
  fun F n hF vs w hv hH hG => by
    obtain ⟨fn, tmps, asg, body, h1, h2⟩ := h F n hF vs w hv hH hG
    exact ⟨fn, tmps, asg, body, h1, h2.mono fun e w' ⟨e', H', r, k⟩ => ⟨e', H', hr _ _ r, k⟩⟩

theorem s_call (hS : Sim G N s a w) (hE0 : Ext s0.heap w0 s.heap w) (hd : dstOk N o.dst = true) {c : Call} {f : Operand} (hf : opdOk N f = true) (hx : c.args.toList.all (opdOk N) = true) (he : o.op = .call c) (hc : c.callee = .value f)
    (hny : ∀ l, dev G s.env f ≠ .func (.yield l) [] []) (h : dCallV P G (devs G s.env c.args.toList) o.dst Q (dev G s.env f) K s) : o.wp P a w (NextS G N K s w) (ExitS G N Q s0 w0) := by
  have rf := rel_dev hS hf
  have rl := rel_devs hS hx
  generalize dev G s.env f = df at h rf hny
  generalize devs G s.env c.args.toList = ds at h rl
  unfold dCallV at h
  split at h <;> try first | exact h.elim | exact (hny _ rfl).elim
  rename_i k first captured
  simp only [Rel] at rf
  obtain ⟨xs, ys, hfv, h1, h2⟩ := rf
  obtain ⟨hcall, hcalls⟩ := h
  have hargs : RelL w s.heap (first ++ ds ++ captured) (xs.toList ++ c.args.toList.map a.eval ++ ys.toList) := (h1.append rl).append h2
  have harr : (xs ++ c.args.map a.eval ++ ys) = (xs.toList ++ c.args.toList.map a.eval ++ ys.toList).toArray := by apply Array.ext'; simp
  have hrun : (execOp a.eval o).run P w = .ok (.enter k (xs ++ c.args.map a.eval ++ ys)) w := by
    simp only [execOp, he, resolve, hc, hfv, Deferred.ofValue, Sem.run_bind, Sem.run_pure, Result.andThen_ok, invoke, hcall]
  unfold Oper.wp
  rw [hrun, harr]
  refine (hcalls _ _ hargs hS.heap hS.glob).mono fun e w' ⟨e', H', hR, hre, hH', hE⟩ => ?_
  cases hre with
  | ret d v hv => exact ⟨_, hR, (hS.ext hE hH').put hd hv, hE⟩
  | panic d v hv => exact ⟨_, _, hR, .panic _ _ hv, hS.ext hE hH', hE0.trans hE⟩

theorem operOk_dst (h : operOk N o = true) : dstOk N o.dst = true := by
  unfold operOk at h
  rw [Bool.and_eq_true] at h
  unfold dstOk
  exact h.1

theorem all_push {α : Type} (p : α → Bool) (xs : Array α) : xs.all p = xs.toList.all p := by
  rw [← Array.all_toList]

theorem s_panic' {x : DVal} {v : Value} (hS : Sim G N s a w) (hE0 : Ext s0.heap w0 s.heap w) (hrun : (execOp a.eval o).run P w = ((Instr.panic v).run P w).andThen fun v w' => .ok (.value v) w') (hv : Rel w s.heap x v) (h : dPanic Q s x) {next : Act → World → Prop} : o.wp P a w next (ExitS G N Q s0 w0) := by
  unfold dPanic at h
  split at h <;> try exact h.elim
  have hv' := hv
  simp only [Rel] at hv
  obtain ⟨y, rfl, hy⟩ := hv
  unfold Oper.wp
  rw [hrun]
  simp only [Instr.panic, goPanic, Sem.run_halt, Result.andThen_halt]
  exact ⟨_, s, h, .panic _ _ hv', hS, hE0⟩

theorem dop_sound (hny : ∀ c f l, o.op = .call c → c.callee = .value f → dev G s.env f ≠ .func (.yield l) [] []) (hok : operOk N o = true) (hS : Sim G N s a w) (hE0 : Ext s0.heap w0 s.heap w) (h : dop P G o.dst K Q s o.op) : o.wp P a w (NextS G N K s w) (ExitS G N Q s0 w0) := by
  have hd := operOk_dst hok
  unfold operOk at hok
  rw [Bool.and_eq_true] at hok
  have hop := hok.2
  rw [all_push] at hop
  cases hq : o.op <;> rw [hq] at h hop <;> simp only [Op.operands, Call.operands, List.all_cons, List.all_nil, Bool.and_true, Bool.and_eq_true] at hop <;> try (exact h.elim)
  case move x => exact (s_move hS hd hop hq h).wp hS hd
  case assign x => exact (s_assign hS hd hop hq h).wp hS hd
  case pick c x y => exact (s_pick hS hd hop.1 hop.2.1 hop.2.2 hq h).wp hS hd
  case alloc e => exact s_alloc hS hd hq h
  case box e x => exact s_box hS hd hop hq h
  case build t ps => exact s_build hS hd (by simpa [Function.comp_def] using hop) hq h
  case buildSlice t n ps => exact s_buildSlice hS hd (by simpa [Function.comp_def] using hop) hq h
  case load t x => exact (s_load hS hd hop hq h).wp hS hd
  case store t x y => exact s_store hS hop.1 hop.2 hq h
  case nilCheck x => exact (s_nilCheck hS hd hop hq h).wp hS hd
  case binOp op t x y t' => exact (s_binX hS hd hop.1 hop.2 hq h).wp hS hd
  case unOp op t x => exact (s_unOp hS hd hop hq h).wp hS hd
  case convert src t x => exact (s_convert hS hd hop hq h).wp hS hd
  case makeInterface t x => exact (s_makeIface hS hd hop hq h).wp hS hd
  case makeFunc fn fs cs =>
    simp only [Array.toList_append, List.all_append, Bool.and_eq_true] at hop
    exact (s_makeFunc hS hd hop.1 hop.2 hq h).wp hS hd
  case makeMap t x =>
    have opt : ∀ (z : Option Operand), z.toArray.toList.all (opdOk N) = true → (match z with | some x => opdOk N x | none => true) = true := by
      intro z hz; cases z with
      | none => rfl
      | some z => simpa using hz
    exact s_makeMap hS hd (opt _ hop) hq h
  case lookup t x k ok => exact s_lookup hS hd hop.1 hop.2 hq h
  case mapUpdate t m k x => exact s_mapUpd hS hop.1 hop.2.1 hop.2.2 hq h
  case makeSlice t l c => exact s_makeSlice hS hd hop.1 hop.2 hq h
  case slice t x lo hi mx =>
    simp only [Array.toList_append, List.all_append, Bool.and_eq_true, List.all_cons, List.all_nil, Bool.and_true] at hop
    have opt : ∀ (z : Option Operand), z.toArray.toList.all (opdOk N) = true → (match z with | some x => opdOk N x | none => true) = true := by
      intro z hz; cases z with
      | none => rfl
      | some z => simpa using hz
    exact (s_slice hS hd hop.1.1.1 (opt _ hop.1.1.2) (opt _ hop.1.2) (opt _ hop.2) hq h).wp hS hd
  case fieldAddr t x f => exact (s_fieldAddr hS hd hop hq h).wp hS hd
  case field t x f => exact (s_field hS hd hop hq h).wp hS hd
  case indexAddr t x i => exact (s_indexAddr hS hd hop.1 hop.2 hq h).wp hS hd
  case index t x i => exact (s_index hS hd hop.1 hop.2 hq h).wp hS hd
  case typeAssert x t u ok => exact (s_typeAssert hS hd hop hq h).wp hS hd
  case extract x i => exact (s_extract hS hd hop hq h).wp hS hd
  case panic x =>
    exact s_panic' hS hE0 (v := a.eval x) (by simp [execOp, hq]) (rel_dev hS hop) h
  case call c =>
    simp only [dop] at h
    simp only [Array.toList_append, List.all_append, Bool.and_eq_true] at hop
    obtain ⟨hcal, hargs⟩ := hop
    cases hc : c.callee with
    | invoke r m => rw [hc] at h; exact h.elim
    | value f =>
      rw [hc] at h hcal
      simp only [dCallee] at h
      exact s_call hS hE0 hd (by simpa using hcal) hargs hq hc (fun l => hny c f l hq hc) h
    | builtin b =>
      rw [hc] at h
      simp only [dCallee] at h
      cases b <;> (try (cases hdv : devs G s.env c.args.toList <;> rw [hdv] at h <;> exact h.elim))
      case len =>
        cases hdv : devs G s.env c.args.toList with
        | nil => rw [hdv] at h; exact h.elim
        | cons d ds => cases ds with
          | cons d2 ds => rw [hdv] at h; exact h.elim
          | nil =>
            obtain ⟨x, hx, rfl⟩ := devs_one hdv
            rw [hdv] at h
            rw [hx] at hargs
            simp only [dBuiltin] at h
            cases hts : c.argTypes.toList with
            | nil => rw [hts] at h; exact h.elim
            | cons t ts => cases ts with
              | nil => rw [hts] at h; exact (s_len hS hd (by simpa using hargs) hq hc hx hts h).wp hS hd
              | cons t' ts' => rw [hts] at h; exact h.elim
      case cap =>
        cases hdv : devs G s.env c.args.toList with
        | nil => rw [hdv] at h; exact h.elim
        | cons d ds => cases ds with
          | cons d2 ds => rw [hdv] at h; exact h.elim
          | nil =>
            obtain ⟨x, hx, rfl⟩ := devs_one hdv
            rw [hdv] at h
            rw [hx] at hargs
            simp only [dBuiltin] at h
            cases hts : c.argTypes.toList with
            | nil => rw [hts] at h; exact h.elim
            | cons t ts => cases ts with
              | nil => rw [hts] at h; exact (s_cap hS hd (by simpa using hargs) hq hc hx hts h).wp hS hd
              | cons t' ts' => rw [hts] at h; exact h.elim
      case clear =>
        cases hdv : devs G s.env c.args.toList with
        | nil => rw [hdv] at h; exact h.elim
        | cons d ds => cases ds with
          | cons d2 ds => rw [hdv] at h; exact h.elim
          | nil =>
            obtain ⟨x, hx, rfl⟩ := devs_one hdv
            rw [hdv] at h
            rw [hx] at hargs
            simp only [dBuiltin] at h
            cases hts : c.argTypes.toList with
            | nil => rw [hts] at h; exact h.elim
            | cons t ts => cases ts with
              | nil => rw [hts] at h; exact s_clear hS hd (by simpa using hargs) hq hc hx hts h
              | cons t' ts' => rw [hts] at h; exact h.elim
      case delete =>
        cases hdv : devs G s.env c.args.toList with
        | nil => rw [hdv] at h; exact h.elim
        | cons d ds => cases ds with
          | nil => rw [hdv] at h; exact h.elim
          | cons d2 ds => cases ds with
            | cons d3 ds => rw [hdv] at h; exact h.elim
            | nil =>
              obtain ⟨x, y, hx, rfl, rfl⟩ := devs_two hdv
              rw [hdv] at h
              rw [hx] at hargs
              simp only [List.all_cons, List.all_nil, Bool.and_true, Bool.and_eq_true] at hargs
              simp only [dBuiltin] at h
              cases hts : c.argTypes.toList with
              | nil => rw [hts] at h; exact h.elim
              | cons t ts => rw [hts] at h; exact s_delete hS hd hargs.1 hargs.2 hq hc hx hts h
      case append =>
        cases hdv : devs G s.env c.args.toList with
        | nil => rw [hdv] at h; exact h.elim
        | cons d ds => cases ds with
          | nil => rw [hdv] at h; exact h.elim
          | cons d2 ds => cases ds with
            | cons d3 ds => rw [hdv] at h; exact h.elim
            | nil =>
              obtain ⟨x, y, hx, rfl, rfl⟩ := devs_two hdv
              rw [hdv] at h
              rw [hx] at hargs
              simp only [List.all_cons, List.all_nil, Bool.and_true, Bool.and_eq_true] at hargs
              simp only [dBuiltin] at h
              cases hts : c.argTypes.toList with
              | nil => rw [hts] at h; exact h.elim
              | cons t ts => cases ts with
                | nil => rw [hts] at h; exact h.elim
                | cons t' ts' => cases ts' with
                  | nil =>
                    rw [hts] at h
                    simp only [dAppendTs] at h
                    cases hit : isIntT (P.underlying t') with
                    | true => rw [hit] at h; exact s_appendX hS hd hargs.1 hargs.2 hq hc hx hts hit h
                    | false => rw [hit] at h; exact s_append hS hd hargs.1 hargs.2 hq hc hx hts h
                  | cons t3 ts3 => rw [hts] at h; exact h.elim
      case min => exact (s_minmax (isMax := false) hS hd hargs hq hc h).wp hS hd
      case max => exact (s_minmax (isMax := true) hS hd hargs hq hc h).wp hS hd
      case panic =>
        cases hdv : devs G s.env c.args.toList with
        | nil => rw [hdv] at h; exact h.elim
        | cons d ds => cases ds with
          | cons d2 ds => rw [hdv] at h; exact h.elim
          | nil =>
            obtain ⟨x, hx, rfl⟩ := devs_one hdv
            rw [hdv] at h
            rw [hx] at hargs
            have hm : c.args.map a.eval = #[a.eval x] := by apply Array.ext'; simp [hx]
            refine s_panic' hS hE0 (v := a.eval x) ?_ (rel_dev hS (by simpa using hargs)) h
            rw [exec_builtin hq hc, hm]
            simp [builtin]


theorem dstOf_eq : ∀ (all : List Oper) (j : Nat), dstOf all j = (all[j]?).bind (·.dst)
  | [], j => by simp [dstOf]
  | o :: r, 0 => by simp [dstOf]
  | o :: r, j + 1 => by simp [dstOf, dstOf_eq r j]

theorem dop_noDefer {dst : Option Nat} {K : DK} {Q : DExit → DS → Prop} {s : DS} {op : Op} (h : dop P G dst K Q s op) (c : Call) : op ≠ .defer c := by
  intro e; subst e; exact h

theorem s_yield {F : Fence} {n : Nat} (hF : FOk F) (hS : Sim G N s a w) (hE0 : Ext s0.heap w0 s.heap w) (hd : dstOk N o.dst = true) {c : Call} {f : Operand} {l : Nat} (hf : opdOk N f = true) (hx : c.args.toList.all (opdOk N) = true) (he : o.op = .call c) (hc : c.callee = .value f)
    (hy : dev G s.env f = .func (.yield l) [] []) (h : DYields P G l (devs G s.env c.args.toList) s.heap (DAfter o.dst K Q s.env)) : o.wpIn F n P a w (NextS G N K s w) (ExitS G N Q s0 w0) := by
  have rf := rel_dev hS hf
  have rl := rel_devs hS hx
  rw [hy] at rf
  generalize devs G s.env c.args.toList = ds at h rl
  simp only [Rel, RelL] at rf
  obtain ⟨xs, ys, hfv, h1, h2⟩ := rf
  have hxs : xs = #[] := by cases xs; simp at h1; subst h1; rfl
  subst hxs
  obtain ⟨fn, tmps, asg, body, hrun, hround⟩ := h F (n - 1) hF _ w rl hS.heap hS.glob
  have hrun' : (execOp a.eval o).run P w = .ok (.round l fn tmps asg body) w := by
    have : (c.args.toList.map a.eval).toArray = c.args.map a.eval := by apply Array.ext'; simp
    rw [this] at hrun
    simp only [execOp, he, resolve, hc, hfv, Deferred.ofValue, Sem.run_bind, Sem.run_pure, Result.andThen_ok, invoke]
    simpa using hrun
  refine ⟨fun f _ => hF.fn f, ?_⟩
  rw [Oper.semAt_eq _ _ _ (by intro c' e; rw [he] at e; cases e), hrun', Oper.uponIn_round]
  refine ⟨(by rw [hF.depth]; intro hh; cases hh), hround.mono fun e w' ⟨e', H', hR, hre, hH', hE⟩ => ?_⟩
  cases hre with
  | ret d v hv => exact ⟨_, hR, (hS.ext hE hH').put hd hv, hE⟩
  | panic d v hv => exact ⟨_, _, hR, .panic _ _ hv, hS.ext hE hH', hE0.trans hE⟩

theorem dop_soundIn {F : Fence} {n : Nat} (hF : FOk F) (hok : operOk N o = true) (hS : Sim G N s a w) (hE0 : Ext s0.heap w0 s.heap w) (h : dop P G o.dst K Q s o.op) : o.wpIn F n P a w (NextS G N K s w) (ExitS G N Q s0 w0) := by
  by_cases hy : ∃ c f l, o.op = .call c ∧ c.callee = .value f ∧ dev G s.env f = .func (.yield l) [] []
  · obtain ⟨c, f, l, h1, h2, h3⟩ := hy
    have hd := operOk_dst hok
    unfold operOk at hok
    rw [Bool.and_eq_true] at hok
    have hop := hok.2
    rw [all_push] at hop
    rw [h1] at h hop
    simp only [Op.operands, Call.operands, Array.toList_append, List.all_append, Bool.and_eq_true] at hop
    obtain ⟨hcal, hargs⟩ := hop
    rw [h2] at hcal
    simp only [dop, h2, dCallee, h3, dCallV] at h
    exact s_yield hF hS hE0 hd (by simpa using hcal) hargs h1 h2 h3 h
  · exact hF.oper (dop_noDefer h) (dop_sound (fun c f l h1 h2 h3 => hy ⟨c, f, l, h1, h2, h3⟩) hok hS hE0 h)

theorem dwps_sound {F : Fence} {n : Nat} (hF : FOk F) (all : List Oper) (hall : all.all (operOk N) = true) : ∀ (rest : List Oper), rest.all (operOk N) = true → ∀ (s : DS) (a : Act) (w : World), Sim G N s a w → Ext s0.heap w0 s.heap w → dwps P G all Q rest s →
    wpListIn F n P all.toArray (ExitS G N Q s0 w0) rest a w
  | [], _, s, a, w, hS, hE, h => ⟨.normal, s, h, .normal, hS, hE⟩
  | o :: rest, hr, s, a, w, hS, hE, h => by
    simp only [List.all_cons, Bool.and_eq_true] at hr
    have next : ∀ (o : Oper) s a w, Sim G N s a w → Ext s0.heap w0 s.heap w → operOk N o = true → dop P G o.dst (dwps P G all Q rest) Q s o.op → o.wpIn F n P a w (wpListIn F n P all.toArray (ExitS G N Q s0 w0) rest) (ExitS G N Q s0 w0) := by
      intro o s a w hS hE hok hd
      exact Oper.wpIn_mono (fun a' w' ⟨s', hK, hS', hE'⟩ => dwps_sound hF all hall rest hr.2 s' a' w' hS' (hE.trans hE') hK) (dop_soundIn hF hok hS hE hd)
    have skip : dput o.dst dundef (dwps P G all Q rest) s → wpListIn F n P all.toArray (ExitS G N Q s0 w0) rest (a.put o.dst undef) w := fun hp =>
      dwps_sound hF all hall rest hr.2 _ _ _ (hS.put (operOk_dst hr.1) (rel_dundef w s.heap)) hE hp
    unfold wpListIn
    simp only [dwps] at h
    cases hg : o.guard with
    | none =>
      rw [hg] at h
      rw [if_pos (by simp [Region.wanted, hg])]
      exact (next o s a w hS hE hr.1 h)
    | some jb =>
      obtain ⟨j, b⟩ := jb
      rw [hg] at h
      simp only at h
      cases hj : dstOf all j with
      | none => rw [hj] at h; exact h.elim
      | some g =>
        rw [hj] at h
        simp only at h
        have hjo : (all[j]?).bind (·.dst) = some g := by rw [← dstOf_eq]; exact hj
        obtain ⟨oj, hoj, hdj⟩ := Option.bind_eq_some_iff.1 hjo
        have hmem : oj ∈ all := List.mem_of_getElem? hoj
        have hgN : g < N := by
          have := List.all_eq_true.1 hall oj hmem
          have := operOk_dst this
          rw [hdj] at this
          simpa [dstOk] using this
        have hrel := hS.tmps g hgN
        by_cases hun : s.env g = .tuple []
        · rw [hun] at h hrel
          simp only [Rel, RelL] at hrel
          obtain ⟨xs, hxs, hx0⟩ := hrel
          have hy : yielded all.toArray a.tmps j = none := by
            have h2 : ∀ z, a.tmps[g]? = some z → z = .tuple xs := fun z hz => by
              rw [Array.getD_eq_getD_getElem?, hz] at hxs; simpa using hxs
            unfold yielded
            simp only [List.getElem?_toArray, hjo, Option.bind_some]
            cases hz : a.tmps[g]? with
            | none => rfl
            | some z => rw [h2 z hz]
          rw [if_neg (by simp [Region.wanted, hg, hy])]
          exact ⟨fun f _ => hF.fn f, skip h⟩
        split at h <;> (try exact h.elim) <;> (try (rename_i hv; exact absurd hv hun))
        rename_i v hv
        rw [hv] at hrel
        simp only [Rel] at hrel
        have hy : yielded all.toArray a.tmps j = some v := by
          have h1 : a.tmps[g]? = some (.bool v) := by
            rw [Array.getD_eq_getD_getElem?] at hrel
            cases hq : a.tmps[g]? with
            | none =>
              have := hS.size
              rw [Array.getElem?_eq_none_iff] at hq
              omega
            | some z => rw [hq] at hrel; simpa using hrel
          simp [yielded, hoj, hdj, h1]
        by_cases hvb : v = b
        · rw [if_pos (by simp [Region.wanted, hg, hy, hvb])]
          exact (next o s a w hS hE hr.1 (h.1 hvb))
        · rw [if_neg (by simp [Region.wanted, hg, hy, hvb])]
          exact ⟨fun f _ => hF.fn f, skip (h.2 hvb)⟩

end
end Go.Dl
