/-
  THE DATA LEVEL, PART W: code, functions.
-/
import Derived.Test.YtimnmempnhjbfaaDv
import Derived.Test.YtimnmempnhjbfaaDe
set_option linter.unusedSimpArgs false
set_option linter.unusedVariables false
namespace Go.Dl
open Go

section
variable {P : Program} {G : Nat → DVal} {N : Fr}
variable {s s0 : DS} {a : Act} {w w0 : World} {Q : DExit → DS → Prop}

theorem GhostS.refl (s : DS) : GhostS G s s := fun w hH hG => ⟨hH, fun b h => h, hG, fun i x h => h⟩

theorem GhostS.sim {s' : DS} (h : GhostS G s s') (hS : Sim G N s a w) : Sim G N s' a w ∧ Ext s.heap w s'.heap w := by
  obtain ⟨h1, h2, h3, h4⟩ := h w hS.heap hS.glob
  exact ⟨⟨hS.size, hS.defers.less h2, fun i hi => h4 i _ (hS.tmps i hi), h1, h3, hS.base⟩, ⟨rfl, rfl, rfl, Nat.le_refl _, fun _ _ _ => rfl, fun b hb => .inl (h2 b hb), fun _ _ => rfl, fun _ => rfl⟩⟩

theorem exitS_mono {e : Exit} {a' : Act} {w' w1 : World} {s1 : DS} (h : ExitS G N Q s1 w1 e a' w') (hE : Ext s0.heap w0 s1.heap w1) : ExitS G N Q s0 w0 e a' w' := by
  obtain ⟨e', s', hq, hx, hS, hE'⟩ := h
  exact ⟨e', s', hq, hx, hS, hE.trans hE'⟩

theorem loop_sound {F : Fence} {n : Nat} {c : Code} {ι : Type} (I : ι → DS → Prop) (μ : ι → Nat) (i : ι) (hS : Sim G N s a w) (hI : I i s) (hE : Ext s0.heap w0 s.heap w)
    (round : ∀ i s a w, Sim G N s a w → I i s → c.wpIn F n P (ExitS G N (DSeqQ (fun s1 => ∃ j s2, GhostS G s1 s2 ∧ I j s2 ∧ μ j < μ i) Q) s w) a w) : (Code.loop c).wpIn F n P (ExitS G N Q s0 w0) a w := by
  intro b k cs hro hb hr
  have key : ∀ n i s a w, μ i = n → I i s → Sim G N s a w → Ext s0.heap w0 s.heap w →
      ∃ e a' w', ExitS G N Q s0 w0 e a' w' ∧ ArrivesIn (Machine.fenced P F) P (lone (b.atR a (.code c :: .inLoop c :: k)) cs w) b k cs e a' w' := by
    intro n
    induction n using Nat.strongRecOn with
    | _ n ih =>
      intro i s a w hn hI hS hE
      obtain ⟨e, a₁, w₁, hq, harr⟩ := round i s a w hS hI b (.inLoop c :: k) cs hro hb hr
      obtain ⟨e', s₁, hQ, hX, hS₁, hE₁⟩ := hq
      have hE' := hE.trans hE₁
      cases hX with
      | normal =>
        obtain ⟨j, s₂, hg, hI₂, hlt⟩ := hQ
        obtain ⟨hS₂, hE₂⟩ := hg.sim hS₁
        obtain ⟨e₂, a₂, w₂, hq₂, harr₂⟩ := ih (μ j) (hn ▸ hlt) j s₂ a₁ w₁ rfl hI₂ hS₂ (hE'.trans hE₂)
        exact ⟨e₂, a₂, w₂, hq₂, .of_steps (StepsIn.trans harr (.one (fenced_calm hb hr rfl) stepR_inLoop)) harr₂⟩
      | exit id => exact ⟨_, a₁, w₁, ⟨_, s₁, hQ, .exit id, hS₁, hE'⟩, .pass (x := .inLoop c) rfl (fun _ _ => .inl (by simp)) harr⟩
      | goto l => exact ⟨_, a₁, w₁, ⟨_, s₁, hQ, .goto l, hS₁, hE'⟩, .pass (x := .inLoop c) rfl (fun _ _ => .inl (by simp)) harr⟩
      | ret => exact ⟨_, a₁, w₁, ⟨_, s₁, hQ, .ret, hS₁, hE'⟩, .pass (x := .inLoop c) rfl (fun _ _ => .inl (by simp)) harr⟩
      | panic d v hv => exact ⟨_, a₁, w₁, ⟨_, s₁, hQ, .panic d v hv, hS₁, hE'⟩, .pass (x := .inLoop c) rfl (fun _ _ => .inl (by simp)) harr⟩
  obtain ⟨e, a', w', hq, harr⟩ := key _ i s a w rfl hI hS hE
  exact ⟨e, a', w', hq, .of_steps (.one (fenced_calm hb hr rfl) stepR_loop) harr⟩

theorem wpIn_scope_straight {F : Fence} {n : Nat} {c : Code} {Q1 Q2 : Exit → Act → World → Prop} (h : c.wpIn F n P Q1 a w) (hq : ∀ e a w, Q1 e a w → (∀ l, e ≠ .goto l) ∧ Q2 e a w) : (Code.scope c).wpIn F n P Q2 a w := by
  intro b k cs hro hb hr
  have h0 : (lone (b.atR a (.code (.scope c) :: k)) cs w).fenced P F := fenced_calm hb hr rfl
  have s0 : step P (lone (b.atR a (.code (.scope c) :: k)) cs w) = .next (lone (b.atR a (.code c :: .inScope c :: k)) cs w) := step_lone_go (by simp [stepG, stepG.exec, Frame.atR])
  have s1 : ∀ (a : Act) (w : World), step P (lone (b.atR a (.inScope c :: k)) cs w) = .next (lone (b.atR a k) cs w) := fun a w => step_lone_go (by simp [stepG, stepG.exec, Frame.atR])
  obtain ⟨e, a₁, w₁, hq1, harr⟩ := h b (.inScope c :: k) cs hro hb hr
  obtain ⟨hg, hq2⟩ := hq _ _ _ hq1
  cases e with
  | normal => exact ⟨.normal, a₁, w₁, hq2, .head h0 s0 (StepsIn.trans harr (.one (fenced_calm hb hr rfl) (s1 _ _)))⟩
  | exit id =>
    have hx : exitTo id (.inScope c :: k) = exitTo id k := by simp [exitTo]
    exact ⟨.exit id, a₁, w₁, hq2, fun k' hk => .head h0 s0 (harr.1 k' (by rw [hx]; exact hk)),
      fun hr' hk => let ⟨k₁, h1, h2⟩ := harr.2 hr' (by rw [hx]; exact hk); ⟨k₁, h1, .head h0 s0 h2⟩⟩
  | goto l => exact absurd rfl (hg l)
  | ret => exact ⟨_, a₁, w₁, hq2, .of_steps (.one h0 s0) harr⟩
  | panic ch => exact ⟨_, a₁, w₁, hq2, .of_steps (.one h0 s0) harr⟩
  | outgrown => exact ⟨_, a₁, w₁, hq2, .of_steps (.one h0 s0) harr⟩

/-- No loop over an iterator in it. -/
def flat : Code → Bool
  | .seq a b => flat a && flat b
  | .cond _ a b => flat a && flat b
  | .block _ c => flat c
  | .loop c => flat c
  | .scope c => flat c
  | .rangeFunc _ _ _ _ => false
  | _ => true

theorem dwp_soundF {N : Nat} {F : Fence} {n B : Nat} (hF : FOk F) : ∀ (c : Code), codeOk N c = true → (F = Fence.wide ∨ flat c = true) → ∀ (Q : DExit → DS → Prop) (s : DS), dwp P G N c Q s →
    ∀ (a : Act) (w : World), Sim G ⟨N, B⟩ s a w → c.wpIn F n P (fun e a' w' => ∃ e' s', Q e' s' ∧ RelX w' s'.heap e' e ∧ Sim G ⟨N, B⟩ s' a' w' ∧ Ext s.heap w s'.heap w') a w
  | .skip, _, _, Q, s, h => fun a w hS => wpIn_skip ⟨.normal, s, h, .normal, hS, Ext.refl _ _⟩
  | .label l, _, _, Q, s, h => fun a w hS => wpIn_label ⟨.normal, s, h, .normal, hS, Ext.refl _ _⟩
  | .region id ops false, hok, _, Q, s, h => fun a w hS => by
    have hok' : ops.toList.all (operOk N) = true := by
      have : ops.all (operOk N) = true := hok
      rw [all_push] at this; exact this
    have h1 := dwps_sound (n := n) hF (P := P) (G := G) (N := ⟨N, B⟩) (s0 := s) (w0 := w) (Q := Q) ops.toList hok' ops.toList hok' s a w hS (Ext.refl _ _) h
    have : ops = ops.toList.toArray := by simp
    rw [this]
    exact wpIn_region_lit h1
  | .region id ops true, _, _, Q, s, h => fun a w hS => h F n B hF a w hS
  | .seq x y, hok, hfl, Q, s, h => fun a w hS => by
    simp only [codeOk, Bool.and_eq_true] at hok
    simp only [flat, Bool.and_eq_true] at hfl
    refine wpIn_seq (wpIn_mono (dwp_soundF hF x hok.1 (hfl.imp id (·.1)) _ s h a w hS) ?_)
    rintro e a' w' ⟨e', s', hQ, hX, hS', hE⟩
    cases hX with
    | normal => exact wpIn_mono (dwp_soundF hF y hok.2 (hfl.imp id (·.2)) Q s' hQ a' w' hS') fun e a w he => exitS_mono he hE
    | exit id => exact ⟨_, s', hQ, .exit id, hS', hE⟩
    | goto l => exact ⟨_, s', hQ, .goto l, hS', hE⟩
    | ret => exact ⟨_, s', hQ, .ret, hS', hE⟩
    | panic d v hv => exact ⟨_, s', hQ, .panic d v hv, hS', hE⟩
  | .cond c x y, hok, hfl, Q, s, h => fun a w hS => by
    simp only [codeOk, Bool.and_eq_true] at hok
    simp only [flat, Bool.and_eq_true] at hfl
    have r := rel_dev hS hok.1.1
    simp only [dwp] at h
    cases hv : dev G s.env c <;> rw [hv] at h r <;> try exact h.elim
    rename_i b
    simp only [Rel] at r
    cases b
    · exact wpIn_cond_false r (dwp_soundF hF y hok.2 (hfl.imp id (·.2)) Q s h a w hS)
    · exact wpIn_cond_true r (dwp_soundF hF x hok.1.2 (hfl.imp id (·.1)) Q s h a w hS)
  | .block id c, hok, hfl, Q, s, h => fun a w hS => by
    simp only [codeOk] at hok
    simp only [flat] at hfl
    refine wpIn_block (wpIn_mono (dwp_soundF hF c hok hfl _ s h a w hS) ?_)
    rintro e a' w' ⟨e', s', hQ, hX, hS', hE⟩
    cases hX with
    | normal => exact ⟨_, s', hQ, .normal, hS', hE⟩
    | exit id' =>
      simp only [Exit.inBlock]
      simp only [DBlockQ] at hQ
      by_cases hid : id' = id
      · rw [if_pos hid]
        simp only [hid, decide_true, dBlockE] at hQ
        exact ⟨_, s', hQ, .normal, hS', hE⟩
      · rw [if_neg hid]
        simp only [hid, decide_false, dBlockE] at hQ
        exact ⟨_, s', hQ, .exit id', hS', hE⟩
    | goto l => exact ⟨_, s', hQ, .goto l, hS', hE⟩
    | ret => exact ⟨_, s', hQ, .ret, hS', hE⟩
    | panic d v hv => exact ⟨_, s', hQ, .panic d v hv, hS', hE⟩
  | .loop c, hok, hfl, Q, s, h => fun a w hS => by
    simp only [codeOk] at hok
    simp only [flat] at hfl
    obtain ⟨ι, I, μ, ⟨i, s', hg, hI⟩, hround⟩ := h
    obtain ⟨hS', hE'⟩ := hg.sim hS
    exact loop_sound I μ i hS' hI hE' fun i1 s1 a1 w1 hS1 hI1 => dwp_soundF hF c hok hfl _ s1 (hround i1 s1 hI1) a1 w1 hS1
  | .rangeFunc _ _ _ _, _, hfl, _, _, h => fun a w hS => by
    rcases hfl with rfl | hfl
    · exact h n B a w hS
    · cases hfl
  | .exit id, _, _, Q, s, h => fun a w hS => wpIn_exit ⟨.exit id, s, h, .exit id, hS, Ext.refl _ _⟩
  | .scope c, hok, hfl, Q, s, h => fun a w hS => by
    simp only [codeOk] at hok
    simp only [flat] at hfl
    refine wpIn_scope_straight (dwp_soundF hF c hok hfl _ s h a w hS) ?_
    rintro e a' w' ⟨e', s', hQ, hX, hS', hE⟩
    cases hX with
    | normal => exact ⟨by simp, _, s', hQ, .normal, hS', hE⟩
    | exit id' => exact ⟨by simp, _, s', hQ, .exit id', hS', hE⟩
    | goto l => exact hQ.elim
    | ret => exact ⟨by simp, _, s', hQ, .ret, hS', hE⟩
    | panic d v hv => exact ⟨by simp, _, s', hQ, .panic d v hv, hS', hE⟩
  | .goto l, _, _, Q, s, h => fun a w hS => wpIn_goto ⟨.goto l, s, h, .goto l, hS, Ext.refl _ _⟩
  | .ret, _, _, Q, s, h => fun a w hS => wpIn_ret ⟨.ret, s, h, .ret, hS, Ext.refl _ _⟩
  | .refuse _, _, _, _, _, h => h.elim

theorem dwp_sound {N : Nat} (c : Code) (hok : codeOk N c = true) (hfl : flat c = true) (Q : DExit → DS → Prop) (s : DS) (h : dwp P G N c Q s) : DWp P G N c Q s :=
  fun _ _ _ hF a w hS => dwp_soundF hF c hok (.inr hfl) Q s h a w hS
theorem dwp_sound0 {N : Nat} (c : Code) (hok : codeOk N c = true) (Q : DExit → DS → Prop) (s : DS) (h : dwp P G N c Q s) : DWp0 P G N c Q s :=
  fun _ _ a w hS => dwp_soundF (.inl rfl) c hok (.inl rfl) Q s h a w hS

-- functions ----------------------------------------------------------------------------------------------------------------------

def dLoadO (size : Nat) (cs : List DVal) (off : Nat) : Option Bool → Option DVal
  | some true => if off + size ≤ cs.length then some (.agg ((cs.drop off).take size)) else none
  | some false => cs[off]?
  | none => none
def dLoadHO (size : Nat) (ag : Option Bool) (off : Nat) : Option DObj → Option DVal
  | some (.cells cs _) => dLoadO size cs off ag
  | _ => none
def dLoadP (size : Nat) (ag : Option Bool) (H : DHeap) : DVal → Option DVal
  | .optr r off => dLoadHO size ag off (H r)
  | _ => none

def dRes1 (P : Program) (s : DS) : ResultVar → Option DVal
  | .tmp t => some (s.env t)
  | .cell x t => dLoadP (P.cellsOf t) (aggB P t) s.heap (s.env x)

def consO : Option DVal → Option (List DVal) → Option (List DVal)
  | some d, some ds => some (d :: ds)
  | _, _ => none
def dResL (P : Program) (s : DS) : List ResultVar → Option (List DVal)
  | [] => some []
  | r :: rs => consO (dRes1 P s r) (dResL P s rs)

def dTuple : Option (List DVal) → Option DVal
  | some [d] => some d
  | some ds => some (.tuple ds)
  | none => none

/-- The call ends: its result, seen with as much of the call's own memory let go as one likes. -/
def DFin (R : DEnd → DHeap → Prop) (v : DVal) (H : DHeap) : Prop :=
  ∃ v' H', (∀ w, SimHeap w H → SimHeap w H' ∧ (∀ b, H' b ≠ none → H b ≠ none) ∧ ∀ x, Rel w H v x → Rel w H' v' x) ∧ R (.ret v') H'
def DFinP (R : DEnd → DHeap → Prop) (v : DVal) (H : DHeap) : Prop :=
  ∃ v' H', (∀ w, SimHeap w H → SimHeap w H' ∧ (∀ b, H' b ≠ none → H b ≠ none) ∧ ∀ x, Rel w H v x → Rel w H' v' x) ∧ R (.panic v') H'

def DFinO (R : DEnd → DHeap → Prop) (H : DHeap) : Option DVal → Prop
  | some v => DFin R v H
  | none => False

def DBody (P : Program) (rs : List ResultVar) (R : DEnd → DHeap → Prop) : DExit → DS → Prop
  | .normal, s => DFinO R s.heap (dTuple (dResL P s rs))
  | .ret, s => DFinO R s.heap (dTuple (dResL P s rs))
  | .panic v, s => DFinP R v s.heap
  | _, _ => False

def dargs : List DVal → Nat → (Nat → DVal)
  | [], _ => fun _ => dundef
  | x :: xs, k => upd (dargs xs (k + 1)) k x

def resOk (N : Nat) : ResultVar → Bool
  | .tmp t => decide (t < N)
  | .cell x _ => decide (x < N)

theorem DFin.refl {R : DEnd → DHeap → Prop} {v : DVal} {H : DHeap} (h : R (.ret v) H) : DFin R v H := ⟨v, H, fun w hH => ⟨hH, fun b hb => hb, fun x hx => hx⟩, h⟩
theorem DFinP.refl {R : DEnd → DHeap → Prop} {v : DVal} {H : DHeap} (h : R (.panic v) H) : DFinP R v H := ⟨v, H, fun w hH => ⟨hH, fun b hb => hb, fun x hx => hx⟩, h⟩

theorem res1_rel (hS : Sim G N s a w) {r : ResultVar} (hr : resOk N r = true) {d : DVal} (h : dRes1 P s r = some d) :
    ∃ x, ((match r with
    | .tmp t => pure (a.tmps.getD t undef)
    | .cell x t => do loadVar t (← asAddr (a.tmps.getD x undef))) : Sem Value).run P w = .ok x w ∧ Rel w s.heap d x := by
  cases r with
  | tmp t =>
    simp only [dRes1] at h; cases h
    exact ⟨_, rfl, hS.tmps t (by simpa [resOk] using hr)⟩
  | cell x t =>
    simp only [dRes1] at h
    have rx := hS.tmps x (by simpa [resOk] using hr)
    cases hv : s.env x <;> rw [hv] at h rx <;> simp only [dLoadP] at h <;> try (cases h; done)
    rename_i r0 off
    simp only [Rel] at rx
    cases hh : s.heap r0 with
    | none => rw [hh] at h; cases h
    | some ob =>
      cases ob with
      | loop => rw [hh] at h; simp only [dLoadHO] at h; cases h
      | map => rw [hh] at h; simp only [dLoadHO] at h; cases h
      | cells cs e =>
        rw [hh] at h
        simp only [dLoadHO] at h
        obtain ⟨xs, hl, hho⟩ := hS.heap.holds hh
        have hlx := hl.length
        have e0 : ∀ z, (do loadVar t (← asAddr z) : Sem Value) = (do let ad ← asAddr z; loadVar t ad) := fun z => rfl
        simp only [rx, asAddr]
        cases hag : aggB P t with
        | none => rw [hag] at h; cases h
        | some ag =>
          rw [hag] at h
          cases ag with
          | true =>
            simp only [dLoadO] at h
            split at h <;> try (cases h; done)
            rename_i hle
            cases h
            have hx : Holds w r0 off ((xs.drop off).take (P.cellsOf t)) := by
              have := (hho.drop (n := off)).take (n := P.cellsOf t)
              simpa using this
            have hln : ((xs.drop off).take (P.cellsOf t)).length = P.cellsOf t := by
              simp; omega
            refine ⟨_, by simp [run_loadVar_agg hag hx hln]; rfl, ?_⟩
            simp only [Rel]
            exact ⟨_, rfl, (hl.drop off).take _⟩
          | false =>
            simp only [dLoadO] at h
            obtain ⟨x, hx, hrel⟩ := hl.get h
            have := hho off x hx
            rw [Nat.zero_add] at this
            exact ⟨x, by simp [run_loadVar_one hag this], hrel⟩

theorem resL_rel (hS : Sim G N s a w) : ∀ {rs : List ResultVar}, rs.all (resOk N) = true → ∀ {ds : List DVal}, dResL P s rs = some ds →
    ∃ xs, (rs.mapM (fun r => (match r with
    | .tmp t => pure (a.tmps.getD t undef)
    | .cell x t => do loadVar t (← asAddr (a.tmps.getD x undef)) : Sem Value))).run P w = .ok xs w ∧ RelL w s.heap ds xs
  | [], _, ds, h => by
    simp only [dResL] at h; cases h
    exact ⟨[], by simp, by simp [RelL]⟩
  | r :: rs, hok, ds, h => by
    simp only [List.all_cons, Bool.and_eq_true] at hok
    simp only [dResL] at h
    cases h1 : dRes1 P s r with
    | none => rw [h1] at h; cases h
    | some d =>
      cases h2 : dResL P s rs with
      | none => rw [h1, h2] at h; cases h
      | some ds' =>
        rw [h1, h2] at h
        simp only [consO] at h; cases h
        obtain ⟨x, hx, hr⟩ := res1_rel (P := P) hS hok.1 h1
        obtain ⟨xs, hxs, hrs⟩ := resL_rel hS hok.2 h2
        refine ⟨x :: xs, ?_, by simp only [RelL]; exact ⟨x, xs, rfl, hr, hrs⟩⟩
        simp only [List.mapM_cons, Sem.run_bind, hx, hxs, Result.andThen_ok, Sem.run_pure]

theorem results_rel (hS : Sim G N s a w) {fn : Func} (hok : fn.results.toList.all (resOk N) = true) {d : DVal} (h : dTuple (dResL P s fn.results.toList) = some d) :
    ∃ x, (results fn a.tmps).run P w = .ok x w ∧ Rel w s.heap d x := by
  cases h2 : dResL P s fn.results.toList with
  | none => rw [h2] at h; cases h
  | some ds =>
    rw [h2] at h
    obtain ⟨xs, hxs, hrs⟩ := resL_rel (P := P) hS hok h2
    have hrun : (results fn a.tmps).run P w = .ok (if h : xs.toArray.size = 1 then xs.toArray[0] else .tuple xs.toArray) w := by
      unfold results
      rw [Array.mapM_eq_mapM_toList]
      simp only [Sem.run_bind, Sem.run_map]
      have : (fn.results.toList.mapM (fun r => (match r with
        | .tmp t => pure (a.tmps.getD t undef)
        | .cell x t => do loadVar t (← asAddr (a.tmps.getD x undef)) : Sem Value))).run P w = .ok xs w := hxs
      first
        | rw [this]
        | (show ((Sem.run P (fn.results.toList.mapM (fun r => (match r with
        | .tmp t => pure (a.tmps.getD t undef)
        | .cell x t => do loadVar t (← asAddr (a.tmps.getD x undef)) : Sem Value))) w).andThen _).andThen _ = _; rw [this])
      rfl
    have hl := hrs.length
    refine ⟨_, hrun, ?_⟩
    cases ds with
    | nil =>
      simp only [dTuple] at h; cases h
      simp only [RelL] at hrs; subst hrs
      simp only [Rel]
      exact ⟨#[], rfl, by simp [RelL]⟩
    | cons d1 ds =>
      cases ds with
      | nil =>
        simp only [dTuple] at h; cases h
        simp only [RelL] at hrs
        obtain ⟨y, ys, rfl, hy, rfl⟩ := hrs
        simpa using hy
      | cons d2 ds =>
        simp only [dTuple] at h; cases h
        have : xs.toArray.size ≠ 1 := by simp at hl ⊢; omega
        rw [dif_neg this]
        simp only [Rel]
        exact ⟨_, rfl, hrs⟩

theorem dargs_get : ∀ (args : List DVal) (k i : Nat), dargs args k (k + i) = args.getD i dundef
  | [], k, i => rfl
  | x :: xs, k, 0 => by simp [dargs, upd]
  | x :: xs, k, i + 1 => by
    simp only [dargs, upd]
    rw [if_neg (by omega)]
    have := dargs_get xs (k + 1) i
    rw [show k + (i + 1) = k + 1 + i by omega, this]
    simp

/-- What a function's text must meet: its slots lie in its frame. -/
def fnOk (fn : Func) (n : Nat) : Bool :=
  decide (n ≤ fn.ntmps) && (match fn.body with | some c => codeOk fn.ntmps c | none => false) && fn.results.toList.all (resOk fn.ntmps)

theorem put_lasts {w : World} {D : Nat} (hD : w.heap[D]? = some (.deferred (some []))) (H : DHeap) : Lasts H w H (w.putObj D (.deferred none)) := putObj_lasts hD rfl rfl H
theorem put_sim {w : World} {D : Nat} {H : DHeap} (hD : w.heap[D]? = some (.deferred (some []))) (hH : SimHeap w H) (hn : H D = none) : SimHeap (w.putObj D (.deferred none)) H := putObj_sim hD rfl rfl hH hn

theorem put_ext {w w0 : World} {D : Nat} {H H0 : DHeap} (hD : w.heap[D]? = some (.deferred (some []))) (hB : w0.heap.size ≤ D) (hE : Ext H0 w0 H w) : Ext H0 w0 H (w.putObj D (.deferred none)) := by
  refine ⟨hE.os, hE.tape, hE.output, by simpa [World.putObj] using hE.size, fun b hb hn => ?_, hE.own, fun b hb => ?_, fun a => ?_⟩
  · rw [World.putObj_heap_other (by omega)]; exact hE.block b hb hn
  · rw [World.putObj_heap_other (by omega)]; exact hE.keep b hb
  · rw [← hE.fz a]; exact putObj_fz hD rfl rfl a

/-- At the call's end what the loops left is taken up. -/
theorem Sim.leave {F : Fence} {n : Nat} {H0 : DHeap} {w0 : World} {fn : Func} {tmps : Array Value} {R : Ending → World → Prop} {u : FrameMode} (hu : u ≠ .run) (hB : N.base = w0.heap.size) {a : Act} :
    ∀ (ds : List Deferred) (w : World), Sim G N s { tmps := a.tmps, defers := ds } w → Ext H0 w0 s.heap w →
      (∀ w', Sim G N s { tmps := a.tmps, defers := [] } w' → Ext H0 w0 s.heap w' → Lasts s.heap w s.heap w' → LeavesIn F n P fn tmps R [] u w') → LeavesInM F n P fn tmps R ds u w
  | [], w, hS, hE, h => h w hS hE (Ext.refl _ _).lasts
  | d :: ds, w, hS, hE, h => by
    obtain ⟨Ds, h1, h2, h3⟩ := hS.defers
    cases Ds with
    | nil => cases h1
    | cons D Ds =>
      simp only [List.map_cons, List.cons.injEq] at h1
      obtain ⟨rfl, rfl⟩ := h1
      obtain ⟨g1, g2, g3⟩ := h3 D (by simp)
      have hl := put_lasts g2 s.heap
      have hnd := List.nodup_cons.1 h2
      refine ⟨hu, .inl ⟨D, _, rfl, run_takeDeferred g2, Sim.leave hu hB _ _ ?_ (put_ext g2 (by omega) hE) fun w' hS' hE' hl' => h w' hS' hE' ?_⟩⟩
      · exact ⟨hS.size, ⟨Ds, rfl, hnd.2, fun D' hD' => ⟨(h3 D' (by simp [hD'])).1, by
          have hne : D' ≠ D := fun e => hnd.1 (by rw [← e]; exact hD')
          rw [World.putObj_heap_other hne]; exact (h3 D' (by simp [hD'])).2.1, (h3 D' (by simp [hD'])).2.2⟩⟩,
          fun i hi => Rel.lasts hl _ _ (hS.tmps i hi), put_sim g2 hS.heap g3, hS.glob.lasts hl, by simpa [World.putObj] using hS.base⟩
      · exact ⟨fun b i x hb hc => hl'.cell b i x hb (hl.cell b i x hb hc).2, Nat.le_trans hl.size hl'.size, fun b hb => by rw [hl'.keep b (Nat.lt_of_lt_of_le hb hl.size), hl.keep b hb]⟩

theorem dcalls_intro {f : FuncId} {fn : Func} {c : Code} {args : List DVal} {H : DHeap} {R : DEnd → DHeap → Prop} (hf : P.funcs[f]? = some fn)
    (hcall : ∀ vs w, (callFunc f vs).run P w = .ok (.enter f vs) w) (hb : fn.body = some c) (hk : fnOk fn args.length = true)
    (h : dwp P G fn.ntmps c (DBody P fn.results.toList R) ⟨dargs args 0, H⟩) : DCalls P G f args H R := by
  unfold fnOk at hk
  rw [hb] at hk
  simp only [Bool.and_eq_true, decide_eq_true_eq] at hk
  obtain ⟨⟨hA, hok⟩, hres⟩ := hk
  refine ⟨hcall, fun vs w hv hH hG => ?_⟩
  have hl := hv.length
  refine (callsIn_wide (n := 0)).1 (callsIn_of_wp_marks hf hb trivial ?_)
  have hS : Sim G ⟨fn.ntmps, w.heap.size⟩ ⟨dargs args 0, H⟩ { tmps := vs.toArray ++ Array.replicate (fn.ntmps - vs.toArray.size) undef, defers := [] } w := by
    refine ⟨by simp; omega, Dfs.nil _ _ _, fun i hi => ?_, hH, hG, Nat.le_refl _⟩
    have h0 := dargs_get args 0 i
    rw [Nat.zero_add] at h0
    show Rel w H (dargs args 0 i) _
    rw [h0]
    by_cases hlt : i < args.length
    · have h1 : args[i]? = some (args.getD i dundef) := by simp [List.getD, List.getElem?_eq_getElem hlt]
      obtain ⟨x, hx, hr⟩ := hv.get h1
      have : (vs.toArray ++ Array.replicate (fn.ntmps - vs.toArray.size) undef).getD i undef = x := by
        have hlt' : i < vs.length := by omega
        rw [Array.getD_eq_getD_getElem?, Array.getElem?_append_left (by simpa using hlt')]
        simp [hx]
      rw [this]; exact hr
    · have h1 : args.getD i dundef = dundef := by simp [List.getD, List.getElem?_eq_none (Nat.le_of_not_lt hlt)]
      have : (vs.toArray ++ Array.replicate (fn.ntmps - vs.toArray.size) undef).getD i undef = undef := by
        rw [Array.getD_eq_getD_getElem?, Array.getElem?_append_right (by simp; omega)]
        simp only [Array.getElem?_replicate]
        split <;> rfl
      rw [h1, this]
      exact rel_dundef w H
  refine wpIn_mono (dwp_sound0 c hok _ _ h 0 w.heap.size _ w hS) ?_
  rintro e a' w1 ⟨e', s', hQ, hX, hS1, hE1⟩
  have fin : ∀ (v : DVal), dTuple (dResL P s' fn.results.toList) = some v → DFin R v s'.heap →
      LeavesInM Fence.wide 0 P fn a'.tmps (fun e w' => ∃ e' H', R e' H' ∧ RelE w' H' e' e ∧ SimHeap w' H' ∧ Ext H w H' w') a'.defers .returning w1 := by
    intro v hv hfin
    refine Sim.leave (a := a') (by simp) rfl a'.defers w1 hS1 hE1 fun w' hS' hE' _ => ?_
    obtain ⟨x, hx, hr⟩ := results_rel (P := P) hS' hres hv
    obtain ⟨v', H', hg, hR⟩ := hfin
    obtain ⟨g1, g2, g3⟩ := hg w' hS'.heap
    exact ⟨x, hx, .ret v', H', hR, .ret v' x (g3 x hr), g1, hE'.trans ⟨rfl, rfl, rfl, Nat.le_refl _, fun _ _ _ => rfl, fun b hb => .inl (g2 b hb), fun _ _ => rfl, fun _ => rfl⟩⟩
  cases hX with
  | normal =>
    simp only [DBody] at hQ
    cases hd : dTuple (dResL P s' fn.results.toList) with
    | none => rw [hd] at hQ; exact hQ.elim
    | some v => rw [hd] at hQ; exact fin v hd hQ
  | ret =>
    simp only [DBody] at hQ
    cases hd : dTuple (dResL P s' fn.results.toList) with
    | none => rw [hd] at hQ; exact hQ.elim
    | some v => rw [hd] at hQ; exact fin v hd hQ
  | exit id => exact hQ.elim
  | goto l => exact hQ.elim
  | panic d v hv =>
    obtain ⟨v', H', hg, hR⟩ := hQ
    refine Sim.leave (a := a') (by simp) rfl a'.defers w1 hS1 hE1 fun w' hS' hE' hl => ?_
    obtain ⟨g1, g2, g3⟩ := hg w' hS'.heap
    exact ⟨.panic v', H', hR, .panic v' v (g3 v (Rel.lasts hl _ _ hv)), g1, hE'.trans ⟨rfl, rfl, rfl, Nat.le_refl _, fun _ _ _ => rfl, fun b hb => .inl (g2 b hb), fun _ _ => rfl, fun _ => rfl⟩⟩

end

attribute [go_sem] dLoadO.eq_1 dLoadO.eq_2 dLoadHO.eq_1 dLoadP.eq_1 dRes1.eq_1 dRes1.eq_2 consO.eq_1 dResL.eq_1 dResL.eq_2 dTuple.eq_1 DFinO.eq_1 DBody.eq_1 DBody.eq_2 DBody.eq_3 dargs.eq_1 dargs.eq_2
theorem dTuple_two (x y : DVal) (zs : List DVal) : dTuple (some (x :: y :: zs)) = some (.tuple (x :: y :: zs)) := rfl
theorem dTuple_nil : dTuple (some []) = some (.tuple []) := rfl
attribute [go_sem] dTuple_two dTuple_nil
end Go.Dl
