/- The data level and the contracts of the functions that are reached (part 3). -/
import Derived.Orders
import Derived.Test.YtfekogpdmjbdkaaGreatDoorPpb
set_option linter.unusedSimpArgs false
set_option linter.unusedVariables false
set_option linter.unusedSectionVars false
-- THE DATA LEVEL, PART W: code, functions.
namespace Go.Dl
open Go
section
variable {P : Program} {G : Nat → DVal} {N : Fr}
variable {s s0 : DS} {a : Act} {w w0 : World} {Q : DExit → DS → Prop}
theorem GhostS.refl (s : DS) : GhostS G s s := fun w hH hG => ⟨hH, fun b h => h, hG, fun i x h => h⟩
theorem GhostS.sim {s' : DS} (h : GhostS G s s') (hS : Sim G N s a w) : Sim G N s' a w ∧ Ext s.heap w s'.heap w := by
 obtain ⟨h1, h2, h3, h4⟩ := h w hS.heap hS.glob;exact ⟨⟨hS.size, hS.defers.less h2, fun i hi => h4 i _ (hS.tmps i hi), h1, h3, hS.base⟩, ⟨rfl, rfl, rfl, Nat.le_refl _, fun _ _ _ => rfl, fun b hb => .inl (h2 b hb), fun _ _ => rfl, fun _ _ _ => rfl⟩⟩
theorem exitS_mono {e : Exit} {a' : Act} {w' w1 : World} {s1 : DS} (h : ExitS G N Q s1 w1 e a' w') (hE : Ext s0.heap w0 s1.heap w1) : ExitS G N Q s0 w0 e a' w' := by
 obtain ⟨e', s', hq, hx, hS, hE'⟩ := h;exact ⟨e', s', hq, hx, hS, hE.trans hE'⟩
theorem loop_sound {F : Fence} {n : Nat} {c : Code} {ι : Type} (I : ι → DS → Prop) (μ : ι → Nat) (i : ι) (hS : Sim G N s a w) (hI : I i s) (hE : Ext s0.heap w0 s.heap w)
  (round : ∀ i s a w, Sim G N s a w → I i s → c.wpIn F n P (ExitS G N (DSeqQ (fun s1 => ∃ j s2, GhostS G s1 s2 ∧ I j s2 ∧ μ j < μ i) Q) s w) a w) : (Code.loop c).wpIn F n P (ExitS G N Q s0 w0) a w := by
 intro b k cs hro hb hr;have key : ∀ n i s a w, μ i = n → I i s → Sim G N s a w → Ext s0.heap w0 s.heap w →
   ∃ e a' w', ExitS G N Q s0 w0 e a' w' ∧ ArrivesIn (Machine.fenced P F) P (lone (b.atR a (.code c :: .inLoop c :: k)) cs w) b k cs e a' w' := by
  intro n
  induction n using Nat.strongRecOn with
  | _ n ih =>
   intro i s a w hn hI hS hE;obtain ⟨e, a₁, w₁, hq, harr⟩ := round i s a w hS hI b (.inLoop c :: k) cs hro hb hr;obtain ⟨e', s₁, hQ, hX, hS₁, hE₁⟩ := hq;have hE' := hE.trans hE₁;cases hX with
   | normal =>
    obtain ⟨j, s₂, hg, hI₂, hlt⟩ := hQ;obtain ⟨hS₂, hE₂⟩ := hg.sim hS₁;obtain ⟨e₂, a₂, w₂, hq₂, harr₂⟩ := ih (μ j) (hn ▸ hlt) j s₂ a₁ w₁ rfl hI₂ hS₂ (hE'.trans hE₂);exact ⟨e₂, a₂, w₂, hq₂, .of_steps (StepsIn.trans harr (.one (fenced_calm hb hr rfl) stepR_inLoop)) harr₂⟩
   | exit id => exact ⟨_, a₁, w₁, ⟨_, s₁, hQ, .exit id, hS₁, hE'⟩, .pass (x := .inLoop c) rfl (fun _ _ => .inl (by simp)) harr⟩
   | goto l => exact ⟨_, a₁, w₁, ⟨_, s₁, hQ, .goto l, hS₁, hE'⟩, .pass (x := .inLoop c) rfl (fun _ _ => .inl (by simp)) harr⟩
   | ret => exact ⟨_, a₁, w₁, ⟨_, s₁, hQ, .ret, hS₁, hE'⟩, .pass (x := .inLoop c) rfl (fun _ _ => .inl (by simp)) harr⟩
   | panic d v hv => exact ⟨_, a₁, w₁, ⟨_, s₁, hQ, .panic d v hv, hS₁, hE'⟩, .pass (x := .inLoop c) rfl (fun _ _ => .inl (by simp)) harr⟩
 obtain ⟨e, a', w', hq, harr⟩ := key _ i s a w rfl hI hS hE;exact ⟨e, a', w', hq, .of_steps (.one (fenced_calm hb hr rfl) stepR_loop) harr⟩
theorem wpIn_scope_straight {F : Fence} {n : Nat} {c : Code} {Q1 Q2 : Exit → Act → World → Prop} (h : c.wpIn F n P Q1 a w) (hq : ∀ e a w, Q1 e a w → (∀ l, e ≠ .goto l) ∧ Q2 e a w) : (Code.scope c).wpIn F n P Q2 a w := by
 intro b k cs hro hb hr;have h0 : (lone (b.atR a (.code (.scope c) :: k)) cs w).fenced P F := fenced_calm hb hr rfl;have s0 : step P (lone (b.atR a (.code (.scope c) :: k)) cs w) = .next (lone (b.atR a (.code c :: .inScope c :: k)) cs w) := step_lone_go (by simp [stepG, stepG.exec, Frame.atR])
 have s1 : ∀ (a : Act) (w : World), step P (lone (b.atR a (.inScope c :: k)) cs w) = .next (lone (b.atR a k) cs w) := fun a w => step_lone_go (by simp [stepG, stepG.exec, Frame.atR])
 obtain ⟨e, a₁, w₁, hq1, harr⟩ := h b (.inScope c :: k) cs hro hb hr;obtain ⟨hg, hq2⟩ := hq _ _ _ hq1;cases e with
 | normal => exact ⟨.normal, a₁, w₁, hq2, .head h0 s0 (StepsIn.trans harr (.one (fenced_calm hb hr rfl) (s1 _ _)))⟩
 | exit id =>
  have hx : exitTo id (.inScope c :: k) = exitTo id k := by simp [exitTo]
  exact ⟨.exit id, a₁, w₁, hq2, fun k' hk => .head h0 s0 (harr.1 k' (by rw [hx]; exact hk)),
   fun hr' hk => let ⟨k₁, h1, h2⟩ := harr.2 hr' (by rw [hx]; exact hk); ⟨k₁, h1, .head h0 s0 h2⟩⟩
 | goto l => exact absurd rfl (hg l)
 | ret => exact ⟨_, a₁, w₁, hq2, .of_steps (.one h0 s0) harr⟩
 | panic ch => exact ⟨_, a₁, w₁, hq2, .of_steps (.one h0 s0) harr⟩
 | outgrown => exact ⟨_, a₁, w₁, hq2, .of_steps (.one h0 s0) harr⟩
def flat : Code → Bool
 | .seq a b => flat a && flat b
 | .cond _ a b => flat a && flat b
 | .block _ c => flat c
 | .loop c => flat c
 | .scope c => flat c
 | .rangeFunc _ _ _ _ => false
 | _ => true
theorem dwp_soundF {N : Nat} {F : Fence} {n : Nat} {B : Base} (hF : FOk F) : ∀ (c : Code), codeOk N c = true → (F = Fence.wide ∧ B.still = false ∨ flat c = true) → ∀ (Q : DExit → DS → Prop) (s : DS), dwp P G N c Q s →
  ∀ (a : Act) (w : World), Sim G ⟨N, B⟩ s a w → c.wpIn F n P (fun e a' w' => ∃ e' s', Q e' s' ∧ RelX w' s'.heap e' e ∧ Sim G ⟨N, B⟩ s' a' w' ∧ Ext s.heap w s'.heap w') a w
 | .skip, _, _, Q, s, h => fun a w hS => wpIn_skip ⟨.normal, s, h, .normal, hS, Ext.refl _ _⟩
 | .label l, _, _, Q, s, h => fun a w hS => wpIn_label ⟨.normal, s, h, .normal, hS, Ext.refl _ _⟩
 | .region id ops false, hok, _, Q, s, h => fun a w hS => by
  have hok' : ops.toList.all (operOk N) = true := by
   have : ops.all (operOk N) = true := hok;rw [all_push] at this; exact this
  have h1 := dwps_sound (n := n) hF (P := P) (G := G) (N := ⟨N, B⟩) (s0 := s) (w0 := w) (Q := Q) ops.toList hok' ops.toList hok' s a w hS (Ext.refl _ _) h;have : ops = ops.toList.toArray := by simp
  rw [this];exact wpIn_region_lit h1
 | .region id ops true, _, _, Q, s, h => fun a w hS => h F n B hF a w hS
 | .seq x y, hok, hfl, Q, s, h => fun a w hS => by
  simp only [codeOk, Bool.and_eq_true] at hok;simp only [flat, Bool.and_eq_true] at hfl;refine wpIn_seq (wpIn_mono (dwp_soundF hF x hok.1 (hfl.imp id (·.1)) _ s h a w hS) ?_);rintro e a' w' ⟨e', s', hQ, hX, hS', hE⟩;cases hX with
  | normal => exact wpIn_mono (dwp_soundF hF y hok.2 (hfl.imp id (·.2)) Q s' hQ a' w' hS') fun e a w he => exitS_mono he hE
  | exit id => exact ⟨_, s', hQ, .exit id, hS', hE⟩
  | goto l => exact ⟨_, s', hQ, .goto l, hS', hE⟩
  | ret => exact ⟨_, s', hQ, .ret, hS', hE⟩
  | panic d v hv => exact ⟨_, s', hQ, .panic d v hv, hS', hE⟩
 | .cond c x y, hok, hfl, Q, s, h => fun a w hS => by
  simp only [codeOk, Bool.and_eq_true] at hok;simp only [flat, Bool.and_eq_true] at hfl;have r := rel_dev hS hok.1.1;simp only [dwp] at h;cases hv : dev G s.env c <;> rw [hv] at h r <;> try exact h.elim
  rename_i b
  simp only [Rel] at r;cases b
  ·exact wpIn_cond_false r (dwp_soundF hF y hok.2 (hfl.imp id (·.2)) Q s h a w hS)
  ·exact wpIn_cond_true r (dwp_soundF hF x hok.1.2 (hfl.imp id (·.1)) Q s h a w hS)
 | .block id c, hok, hfl, Q, s, h => fun a w hS => by
  simp only [codeOk] at hok;simp only [flat] at hfl;refine wpIn_block (wpIn_mono (dwp_soundF hF c hok hfl _ s h a w hS) ?_);rintro e a' w' ⟨e', s', hQ, hX, hS', hE⟩;cases hX with
  | normal => exact ⟨_, s', hQ, .normal, hS', hE⟩
  | exit id' =>
   simp only [Exit.inBlock];simp only [DBlockQ] at hQ;by_cases hid : id' = id
   ·rw [if_pos hid];simp only [hid, decide_true, dBlockE] at hQ;exact ⟨_, s', hQ, .normal, hS', hE⟩
   ·rw [if_neg hid];simp only [hid, decide_false, dBlockE] at hQ;exact ⟨_, s', hQ, .exit id', hS', hE⟩
  | goto l => exact ⟨_, s', hQ, .goto l, hS', hE⟩
  | ret => exact ⟨_, s', hQ, .ret, hS', hE⟩
  | panic d v hv => exact ⟨_, s', hQ, .panic d v hv, hS', hE⟩
 | .loop c, hok, hfl, Q, s, h => fun a w hS => by
  simp only [codeOk] at hok;simp only [flat] at hfl;obtain ⟨ι, I, μ, ⟨i, s', hg, hI⟩, hround⟩ := h;obtain ⟨hS', hE'⟩ := hg.sim hS;exact loop_sound I μ i hS' hI hE' fun i1 s1 a1 w1 hS1 hI1 => dwp_soundF hF c hok hfl _ s1 (hround i1 s1 hI1) a1 w1 hS1
 | .rangeFunc _ _ _ _, _, hfl, _, _, h => fun a w hS => by
  rcases hfl with ⟨rfl, hst⟩ | hfl
  ·exact h n B hst a w hS
  ·cases hfl
 | .exit id, _, _, Q, s, h => fun a w hS => wpIn_exit ⟨.exit id, s, h, .exit id, hS, Ext.refl _ _⟩
 | .scope c, hok, hfl, Q, s, h => fun a w hS => by
  simp only [codeOk] at hok;simp only [flat] at hfl;refine wpIn_scope_straight (dwp_soundF hF c hok hfl _ s h a w hS) ?_;rintro e a' w' ⟨e', s', hQ, hX, hS', hE⟩;cases hX with
  | normal => exact ⟨by simp, _, s', hQ, .normal, hS', hE⟩
  | exit id' => exact ⟨by simp, _, s', hQ, .exit id', hS', hE⟩
  | goto l => exact hQ.elim
  | ret => exact ⟨by simp, _, s', hQ, .ret, hS', hE⟩
  | panic d v hv => exact ⟨by simp, _, s', hQ, .panic d v hv, hS', hE⟩
 | .goto l, _, _, Q, s, h => fun a w hS => wpIn_goto ⟨.goto l, s, h, .goto l, hS, Ext.refl _ _⟩
 | .ret, _, _, Q, s, h => fun a w hS => wpIn_ret ⟨.ret, s, h, .ret, hS, Ext.refl _ _⟩
 | .refuse _, _, _, _, _, h => h.elim
theorem dwp_sound0 {N : Nat} (c : Code) (hok : codeOk N c = true) (Q : DExit → DS → Prop) (s : DS) (h : dwp P G N c Q s) : DWp0 P G N c Q s :=
 fun _ _ hst a w hS => dwp_soundF (.inl rfl) c hok (.inl ⟨rfl, hst⟩) Q s h a w hS
def dLoadO (size : Nat) (cs : List DVal) (off : Nat) : Option Bool → Option DVal
 | some true => if off + size ≤ cs.length then some (.agg ((cs.drop off).take size)) else none
 | some false => cs[off]?
 | none => none
def dLoadHO (size : Nat) (ag : Option Bool) (off : Nat) : Option DObj → Option DVal
 | some (.cells cs _) => dLoadO size cs off ag
 | _ => none
def dLoadP (size : Nat) (ag : Option Bool) (H : DHeap) : DVal → Option DVal
 | .optr r off => dLoadHO size ag off (H r)
 | _ => none
def dRes1 (P : Program) (s : DS) : ResultVar → Option DVal
 | .tmp t => some (s.env t)
 | .cell x t => dLoadP (P.cellsOf t) (aggB P t) s.heap (s.env x)
def consO : Option DVal → Option (List DVal) → Option (List DVal)
 | some d, some ds => some (d :: ds)
 | _, _ => none
def dResL (P : Program) (s : DS) : List ResultVar → Option (List DVal)
 | [] => some []
 | r :: rs => consO (dRes1 P s r) (dResL P s rs)
def dTuple : Option (List DVal) → Option DVal
 | some [d] => some d
 | some ds => some (.tuple ds)
 | none => none
def DFin (R : DEnd → DHeap → Prop) (v : DVal) (H : DHeap) : Prop :=
 ∃ v' H', (∀ w, SimHeap w H → SimHeap w H' ∧ (∀ b, H' b ≠ none → H b ≠ none) ∧ ∀ x, Rel w H v x → Rel w H' v' x) ∧ R (.ret v') H'
def DFinP (R : DEnd → DHeap → Prop) (v : DVal) (H : DHeap) : Prop :=
 ∃ v' H', (∀ w, SimHeap w H → SimHeap w H' ∧ (∀ b, H' b ≠ none → H b ≠ none) ∧ ∀ x, Rel w H v x → Rel w H' v' x) ∧ R (.panic v') H'
def DFinO (R : DEnd → DHeap → Prop) (H : DHeap) : Option DVal → Prop
 | some v => DFin R v H
 | none => False
def DBody (P : Program) (rs : List ResultVar) (R : DEnd → DHeap → Prop) : DExit → DS → Prop
 | .normal, s => DFinO R s.heap (dTuple (dResL P s rs))
 | .ret, s => DFinO R s.heap (dTuple (dResL P s rs))
 | .panic v, s => DFinP R v s.heap
 | _, _ => False
def dargs : List DVal → Nat → (Nat → DVal)
 | [], _ => fun _ => dundef
 | x :: xs, k => upd (dargs xs (k + 1)) k x
def resOk (N : Nat) : ResultVar → Bool
 | .tmp t => decide (t < N)
 | .cell x _ => decide (x < N)
theorem DFin.refl {R : DEnd → DHeap → Prop} {v : DVal} {H : DHeap} (h : R (.ret v) H) : DFin R v H := ⟨v, H, fun w hH => ⟨hH, fun b hb => hb, fun x hx => hx⟩, h⟩
theorem DFinP.refl {R : DEnd → DHeap → Prop} {v : DVal} {H : DHeap} (h : R (.panic v) H) : DFinP R v H := ⟨v, H, fun w hH => ⟨hH, fun b hb => hb, fun x hx => hx⟩, h⟩
theorem res1_rel (hS : Sim G N s a w) {r : ResultVar} (hr : resOk N r = true) {d : DVal} (h : dRes1 P s r = some d) :
  ∃ x, ((match r with
  | .tmp t => pure (a.tmps.getD t undef)
  | .cell x t => do loadVar t (← asAddr (a.tmps.getD x undef))) : Sem Value).run P w = .ok x w ∧ Rel w s.heap d x := by
 cases r with
 | tmp t =>
  simp only [dRes1] at h; cases h
  exact ⟨_, rfl, hS.tmps t (by simpa [resOk] using hr)⟩
 | cell x t =>
  simp only [dRes1] at h
  have rx := hS.tmps x (by simpa [resOk] using hr)
  cases hv : s.env x <;> rw [hv] at h rx <;> simp only [dLoadP] at h <;> try (cases h; done)
  rename_i r0 off
  simp only [Rel] at rx
  cases hh : s.heap r0 with
  | none => rw [hh] at h; cases h
  | some ob =>
   cases ob with
   | loop => rw [hh] at h; simp only [dLoadHO] at h; cases h
   | iter => rw [hh] at h; simp only [dLoadHO] at h; cases h
   | map => rw [hh] at h; simp only [dLoadHO] at h; cases h
   | cells cs e =>
    rw [hh] at h
    simp only [dLoadHO] at h
    obtain ⟨xs, hl, hho⟩ := hS.heap.holds hh
    have hlx := hl.length
    have e0 : ∀ z, (do loadVar t (← asAddr z) : Sem Value) = (do let ad ← asAddr z; loadVar t ad) := fun z => rfl
    simp only [rx, asAddr]
    cases hag : aggB P t with
    | none => rw [hag] at h; cases h
    | some ag =>
     rw [hag] at h
     cases ag with
     | true =>
      simp only [dLoadO] at h
      split at h <;> try (cases h; done)
      rename_i hle
      cases h
      have hx : Holds w r0 off ((xs.drop off).take (P.cellsOf t)) := by
       have := (hho.drop (n := off)).take (n := P.cellsOf t)
       simpa using this
      have hln : ((xs.drop off).take (P.cellsOf t)).length = P.cellsOf t := by
       simp; omega
      refine ⟨_, by simp [run_loadVar_agg hag hx hln]; rfl, ?_⟩
      simp only [Rel]
      exact ⟨_, rfl, (hl.drop off).take _⟩
     | false =>
      simp only [dLoadO] at h
      obtain ⟨x, hx, hrel⟩ := hl.get h
      have := hho off x hx
      rw [Nat.zero_add] at this
      exact ⟨x, by simp [run_loadVar_one hag this], hrel⟩
theorem resL_rel (hS : Sim G N s a w) : ∀ {rs : List ResultVar}, rs.all (resOk N) = true → ∀ {ds : List DVal}, dResL P s rs = some ds →
  ∃ xs, (rs.mapM (fun r => (match r with
  | .tmp t => pure (a.tmps.getD t undef)
  | .cell x t => do loadVar t (← asAddr (a.tmps.getD x undef)) : Sem Value))).run P w = .ok xs w ∧ RelL w s.heap ds xs
 | [], _, ds, h => by
  simp only [dResL] at h; cases h
  exact ⟨[], by simp, by simp [RelL]⟩
 | r :: rs, hok, ds, h => by
  simp only [List.all_cons, Bool.and_eq_true] at hok
  simp only [dResL] at h
  cases h1 : dRes1 P s r with
  | none => rw [h1] at h; cases h
  | some d =>
   cases h2 : dResL P s rs with
   | none => rw [h1, h2] at h; cases h
   | some ds' =>
    rw [h1, h2] at h
    simp only [consO] at h; cases h
    obtain ⟨x, hx, hr⟩ := res1_rel (P := P) hS hok.1 h1
    obtain ⟨xs, hxs, hrs⟩ := resL_rel hS hok.2 h2
    refine ⟨x :: xs, ?_, by simp only [RelL]; exact ⟨x, xs, rfl, hr, hrs⟩⟩
    simp only [List.mapM_cons, Sem.run_bind, hx, hxs, Result.andThen_ok, Sem.run_pure]
theorem results_rel (hS : Sim G N s a w) {fn : Func} (hok : fn.results.toList.all (resOk N) = true) {d : DVal} (h : dTuple (dResL P s fn.results.toList) = some d) :
  ∃ x, (results fn a.tmps).run P w = .ok x w ∧ Rel w s.heap d x := by
 cases h2 : dResL P s fn.results.toList with
 | none => rw [h2] at h; cases h
 | some ds =>
  rw [h2] at h
  obtain ⟨xs, hxs, hrs⟩ := resL_rel (P := P) hS hok h2
  have hrun : (results fn a.tmps).run P w = .ok (if h : xs.toArray.size = 1 then xs.toArray[0] else .tuple xs.toArray) w := by
   unfold results
   rw [Array.mapM_eq_mapM_toList]
   simp only [Sem.run_bind, Sem.run_map]
   have : (fn.results.toList.mapM (fun r => (match r with
    | .tmp t => pure (a.tmps.getD t undef)
    | .cell x t => do loadVar t (← asAddr (a.tmps.getD x undef)) : Sem Value))).run P w = .ok xs w := hxs
   first
    | rw [this]
    | (show ((Sem.run P (fn.results.toList.mapM (fun r => (match r with
    | .tmp t => pure (a.tmps.getD t undef)
    | .cell x t => do loadVar t (← asAddr (a.tmps.getD x undef)) : Sem Value))) w).andThen _).andThen _ = _; rw [this])
   rfl
  have hl := hrs.length
  refine ⟨_, hrun, ?_⟩
  cases ds with
  | nil =>
   simp only [dTuple] at h; cases h
   simp only [RelL] at hrs; subst hrs
   simp only [Rel]
   exact ⟨#[], rfl, by simp [RelL]⟩
  | cons d1 ds =>
   cases ds with
   | nil =>
    simp only [dTuple] at h; cases h
    simp only [RelL] at hrs
    obtain ⟨y, ys, rfl, hy, rfl⟩ := hrs
    simpa using hy
   | cons d2 ds =>
    simp only [dTuple] at h; cases h
    have : xs.toArray.size ≠ 1 := by simp at hl ⊢; omega
    rw [dif_neg this]
    simp only [Rel]
    exact ⟨_, rfl, hrs⟩
theorem dargs_get : ∀ (args : List DVal) (k i : Nat), dargs args k (k + i) = args.getD i dundef
 | [], k, i => rfl
 | x :: xs, k, 0 => by simp [dargs, upd]
 | x :: xs, k, i + 1 => by
  simp only [dargs, upd];rw [if_neg (by omega)];have := dargs_get xs (k + 1) i;rw [show k + (i + 1) = k + 1 + i by omega, this];simp
def fnOk (fn : Func) (n : Nat) : Bool :=
 decide (n ≤ fn.ntmps) && (match fn.body with | some c => codeOk fn.ntmps c | none => false) && fn.results.toList.all (resOk fn.ntmps)
theorem put_lasts {w : World} {D : Nat} (hD : w.heap[D]? = some (.deferred (some []))) (H : DHeap) : Lasts H w H (w.putObj D (.deferred none)) := putObj_lasts hD rfl rfl H
theorem put_sim {w : World} {D : Nat} {H : DHeap} (hD : w.heap[D]? = some (.deferred (some []))) (hH : SimHeap w H) (hn : H D = none) : SimHeap (w.putObj D (.deferred none)) H := putObj_sim hD rfl rfl hH hn
theorem put_ext {w w0 : World} {D : Nat} {H H0 : DHeap} (hD : w.heap[D]? = some (.deferred (some []))) (hB : w0.heap.size ≤ D) (hE : Ext H0 w0 H w) : Ext H0 w0 H (w.putObj D (.deferred none)) := by
 refine ⟨hE.os, hE.tape, hE.output, by simpa [World.putObj] using hE.size, fun b hb hn => ?_, hE.own, fun b hb => ?_, fun a ha hn => ?_⟩
 ·rw [World.putObj_heap_other (by omega)]; exact hE.block b hb hn
 ·rw [World.putObj_heap_other (by omega)]; exact hE.keep b hb
 ·rw [← hE.fz a ha hn]; exact putObj_fz hD rfl rfl a
theorem Sim.leaveT {F : Fence} {n : Nat} {H0 : DHeap} {w0 : World} {fn : Func} {tmps : Array Value} {R : Ending → World → Prop} {u : FrameMode} {T : List Deferred} (hu : u ≠ .run) (hB : N.base = ⟨w0.heap.size, T, false⟩) {a : Act} :
  ∀ (Ds : List Nat) (w : World), Ds.Nodup → (∀ D ∈ Ds, (N.base.b ≤ D ∧ N.base.still = false) ∧ w.heap[D]? = some (.deferred (some [])) ∧ s.heap D = none) →
   Sim G N s { tmps := a.tmps, defers := Ds.map (fun D => ({ target := .collected D, args := #[] } : Deferred)) ++ T } w → Ext H0 w0 s.heap w →
   (∀ w', Sim G N s { tmps := a.tmps, defers := T } w' → Ext H0 w0 s.heap w' → Lasts s.heap w s.heap w' → LeavesInM F n P fn tmps R T u w') →
   LeavesInM F n P fn tmps R (Ds.map (fun D => ({ target := .collected D, args := #[] } : Deferred)) ++ T) u w
 | [], w, _, _, hS, hE, h => h w hS hE (Ext.refl _ _).lasts
 | D :: Ds, w, h2, h3, hS, hE, h => by
  have hB' : N.base.b = w0.heap.size := by rw [hB]
  have hT : N.base.late = T := by rw [hB]
  obtain ⟨g1, g2, g3⟩ := h3 D (by simp);have hl := put_lasts g2 s.heap;have hnd := List.nodup_cons.1 h2;have h4 : ∀ D' ∈ Ds, (N.base.b ≤ D' ∧ N.base.still = false) ∧ (w.putObj D (.deferred none)).heap[D']? = some (.deferred (some [])) ∧ s.heap D' = none := fun D' hD' => ⟨(h3 D' (by simp [hD'])).1, by
   have hne : D' ≠ D := fun e => hnd.1 (by rw [← e]; exact hD');rw [World.putObj_heap_other hne]; exact (h3 D' (by simp [hD'])).2.1, (h3 D' (by simp [hD'])).2.2⟩
  refine ⟨hu, .inl ⟨D, _, rfl, run_takeDeferred g2, Sim.leaveT hu hB Ds _ hnd.2 h4 ?_ (put_ext g2 (by omega) hE) fun w' hS' hE' hl' => h w' hS' hE' ?_⟩⟩
  ·exact ⟨hS.size, ⟨Ds, by rw [hT], hnd.2, h4⟩,
    fun i hi => Rel.lasts hl _ _ (hS.tmps i hi), put_sim g2 hS.heap g3, hS.glob.lasts hl, by simpa [World.putObj] using hS.base⟩
  ·exact ⟨fun b i x hb hc => hl'.cell b i x hb (hl.cell b i x hb hc).2, Nat.le_trans hl.size hl'.size, fun b hb => by rw [hl'.keep b (Nat.lt_of_lt_of_le hb hl.size), hl.keep b hb]⟩
theorem Sim.leaveL {F : Fence} {n : Nat} {H0 : DHeap} {w0 : World} {fn : Func} {tmps : Array Value} {R : Ending → World → Prop} {u : FrameMode} {T : List Deferred} (hu : u ≠ .run) (hB : N.base = ⟨w0.heap.size, T, false⟩) {a : Act}
  (ds : List Deferred) (w : World) (hS : Sim G N s { tmps := a.tmps, defers := ds } w) (hE : Ext H0 w0 s.heap w)
  (h : ∀ w', Sim G N s { tmps := a.tmps, defers := T } w' → Ext H0 w0 s.heap w' → Lasts s.heap w s.heap w' → LeavesInM F n P fn tmps R T u w') : LeavesInM F n P fn tmps R ds u w := by
 obtain ⟨Ds, h1, h2, h3⟩ := hS.defers;have hT : N.base.late = T := by rw [hB]
 rw [hT] at h1;dsimp only at h1;subst h1;exact Sim.leaveT hu hB Ds w h2 h3 hS hE h
theorem Sim.leave {F : Fence} {n : Nat} {H0 : DHeap} {w0 : World} {fn : Func} {tmps : Array Value} {R : Ending → World → Prop} {u : FrameMode} (hu : u ≠ .run) (hB : N.base = ⟨w0.heap.size, [], false⟩) {a : Act} :
  ∀ (ds : List Deferred) (w : World), Sim G N s { tmps := a.tmps, defers := ds } w → Ext H0 w0 s.heap w →
   (∀ w', Sim G N s { tmps := a.tmps, defers := [] } w' → Ext H0 w0 s.heap w' → Lasts s.heap w s.heap w' → LeavesIn F n P fn tmps R [] u w') → LeavesInM F n P fn tmps R ds u w :=
 fun ds w hS hE h => Sim.leaveL (T := []) hu hB ds w hS hE h
theorem dcalls_intro {f : FuncId} {fn : Func} {c : Code} {args : List DVal} {H : DHeap} {R : DEnd → DHeap → Prop} (hf : P.funcs[f]? = some fn)
  (hcall : ∀ vs w, (callFunc f vs).run P w = .ok (.enter f vs) w) (hb : fn.body = some c) (hk : fnOk fn args.length = true)
  (h : dwp P G fn.ntmps c (DBody P fn.results.toList R) ⟨dargs args 0, H⟩) : DCalls P G f args H R := by
 unfold fnOk at hk;rw [hb] at hk;simp only [Bool.and_eq_true, decide_eq_true_eq] at hk;obtain ⟨⟨hA, hok⟩, hres⟩ := hk;refine ⟨hcall, fun vs w hv hH hG => ?_⟩;have hl := hv.length;refine (callsIn_wide (n := 0)).1 (callsIn_of_wp_marks hf hb trivial ?_);have hS : Sim G ⟨fn.ntmps, ⟨w.heap.size, [], false⟩⟩ ⟨dargs args 0, H⟩ { tmps := vs.toArray ++ Array.replicate (fn.ntmps - vs.toArray.size) undef, defers := [] } w := by
  refine ⟨by simp; omega, Dfs.nil _ _ _, fun i hi => ?_, hH, hG, Nat.le_refl _⟩;have h0 := dargs_get args 0 i;rw [Nat.zero_add] at h0;show Rel w H (dargs args 0 i) _;rw [h0];by_cases hlt : i < args.length
  ·have h1 : args[i]? = some (args.getD i dundef) := by simp [List.getD, List.getElem?_eq_getElem hlt]
   obtain ⟨x, hx, hr⟩ := hv.get h1;have : (vs.toArray ++ Array.replicate (fn.ntmps - vs.toArray.size) undef).getD i undef = x := by
    have hlt' : i < vs.length := by omega
    rw [Array.getD_eq_getD_getElem?, Array.getElem?_append_left (by simpa using hlt')];simp [hx]
   rw [this]; exact hr
  ·have h1 : args.getD i dundef = dundef := by simp [List.getD, List.getElem?_eq_none (Nat.le_of_not_lt hlt)]
   have : (vs.toArray ++ Array.replicate (fn.ntmps - vs.toArray.size) undef).getD i undef = undef := by
    rw [Array.getD_eq_getD_getElem?, Array.getElem?_append_right (by simp; omega)];simp only [Array.getElem?_replicate];split <;> rfl
   rw [h1, this];exact rel_dundef w H
 refine wpIn_mono (dwp_sound0 c hok _ _ h 0 ⟨w.heap.size, [], false⟩ rfl _ w hS) ?_;rintro e a' w1 ⟨e', s', hQ, hX, hS1, hE1⟩;have fin : ∀ (v : DVal), dTuple (dResL P s' fn.results.toList) = some v → DFin R v s'.heap →
   LeavesInM Fence.wide 0 P fn a'.tmps (fun e w' => ∃ e' H', R e' H' ∧ RelE w' H' e' e ∧ SimHeap w' H' ∧ Ext H w H' w') a'.defers .returning w1 := by
  intro v hv hfin;refine Sim.leave (a := a') (by simp) rfl a'.defers w1 hS1 hE1 fun w' hS' hE' _ => ?_;obtain ⟨x, hx, hr⟩ := results_rel (P := P) hS' hres hv;obtain ⟨v', H', hg, hR⟩ := hfin;obtain ⟨g1, g2, g3⟩ := hg w' hS'.heap;exact ⟨x, hx, .ret v', H', hR, .ret v' x (g3 x hr), g1, hE'.trans ⟨rfl, rfl, rfl, Nat.le_refl _, fun _ _ _ => rfl, fun b hb => .inl (g2 b hb), fun _ _ => rfl, fun _ _ _ => rfl⟩⟩
 cases hX with
 | normal =>
  simp only [DBody] at hQ;cases hd : dTuple (dResL P s' fn.results.toList) with
  | none => rw [hd] at hQ; exact hQ.elim
  | some v => rw [hd] at hQ; exact fin v hd hQ
 | ret =>
  simp only [DBody] at hQ;cases hd : dTuple (dResL P s' fn.results.toList) with
  | none => rw [hd] at hQ; exact hQ.elim
  | some v => rw [hd] at hQ; exact fin v hd hQ
 | exit id => exact hQ.elim
 | goto l => exact hQ.elim
 | panic d v hv =>
  obtain ⟨v', H', hg, hR⟩ := hQ;refine Sim.leave (a := a') (by simp) rfl a'.defers w1 hS1 hE1 fun w' hS' hE' hl => ?_;obtain ⟨g1, g2, g3⟩ := hg w' hS'.heap;exact ⟨.panic v', H', hR, .panic v' v (g3 v (Rel.lasts hl _ _ hv)), g1, hE'.trans ⟨rfl, rfl, rfl, Nat.le_refl _, fun _ _ _ => rfl, fun b hb => .inl (g2 b hb), fun _ _ => rfl, fun _ _ _ => rfl⟩⟩
end
attribute [go_sem] dLoadO.eq_1 dLoadO.eq_2 dLoadHO.eq_1 dLoadP.eq_1 dRes1.eq_1 dRes1.eq_2 consO.eq_1 dResL.eq_1 dResL.eq_2 dTuple.eq_1 DFinO.eq_1 DBody.eq_1 DBody.eq_2 DBody.eq_3 dargs.eq_1 dargs.eq_2
theorem dTuple_two (x y : DVal) (zs : List DVal) : dTuple (some (x :: y :: zs)) = some (.tuple (x :: y :: zs)) := rfl
theorem dTuple_nil : dTuple (some []) = some (.tuple []) := rfl
attribute [go_sem] dTuple_two dTuple_nil
end Go.Dl

-- THE DATA LEVEL, PART X: plain data seen at this level; small words.
namespace Go.Dl
open Go
theorem wrap64_id {n : Int} (h1 : -9223372036854775808 ≤ n) (h2 : n ≤ 9223372036854775807) : IntKind.wrap .i64 n = n := IntWalk.i64_in n ⟨h1, h2⟩
abbrev dI (n : Int) : DVal := .int .i64 n
theorem DLoop.run {G : Nat → DVal} {body : (DExit → DS → Prop) → DK} {Q : DExit → DS → Prop} {s : DS} {ι : Type} (I : ι → (Nat → DVal) → DHeap → Prop) (μ : ι → Nat) (i : ι) (h0 : I i s.env s.heap)
  (hr : ∀ i env heap, I i env heap → body (DSeqQ (fun s1 => ∃ j s2, GhostS G s1 s2 ∧ I j s2.env s2.heap ∧ μ j < μ i) Q) ⟨env, heap⟩) : DLoop G body Q s :=
 ⟨ι, fun i s => I i s.env s.heap, μ, ⟨i, s, GhostS.refl s, h0⟩, fun i s h => hr i s.env s.heap h⟩
theorem again {G : Nat → DVal} {ι : Type} {I : ι → (Nat → DVal) → DHeap → Prop} {μ : ι → Nat} {s : DS} {m : Nat} (j : ι) (h : I j s.env s.heap) (hm : μ j < m) : ∃ j s2, GhostS G s s2 ∧ I j s2.env s2.heap ∧ μ j < m := ⟨j, s, GhostS.refl s, h, hm⟩
theorem and_of {a b : Prop} (h : a) : (a ∧ b) = b := by simp [h]
theorem dec_true {p : Prop} [Decidable p] (h : p) : decide p = true := by simp [h]
theorem dec_false {p : Prop} [Decidable p] (h : ¬ p) : decide p = false := by simp [h]
theorem upd_ne {α : Type} (f : Nat → α) (i j : Nat) (v : α) (h : j ≠ i) : upd f i v j = f j := by simp [upd, h]
end Go.Dl

-- THE DATA LEVEL, PART Y: regions whose order is drawn: a plan takes operations that only compute as early as they may come; whatever order is drawn ends as the plan does.
namespace Go.Dl
open Go
def EVF (dst : Option Nat) (F : DK → DS → Prop) : Prop :=
 ∀ K s, F K s → ∃ d, dput dst d K s ∧ ∀ K' s', dput dst d K' s' → F K' s'
theorem evf_put (dst : Option Nat) (d : DVal) : EVF dst (dput dst d) := fun K s h => ⟨d, h, fun K' s' h' => h'⟩
theorem evf_false (dst : Option Nat) {F : DK → DS → Prop} (h : ∀ K s, ¬ F K s) : EVF dst F := fun K s hf => (h K s hf).elim
theorem evf_and {dst : Option Nat} {p : Prop} {F : DK → DS → Prop} (h : EVF dst F) : EVF dst (fun K s => p ∧ F K s) := fun K s ⟨hp, hf⟩ => by
 obtain ⟨d, h1, h2⟩ := h K s hf;exact ⟨d, h1, fun K' s' h' => ⟨hp, h2 K' s' h'⟩⟩
theorem evf_putO (dst : Option Nat) (o : Option DVal) : EVF dst (dputO dst o) := by
 cases o with
 | none => exact evf_false _ fun K s h => h
 | some d => exact evf_put dst d
theorem ev_pick (dst : Option Nat) (c a b : DVal) : EVF dst (dPick dst c a b) := by
 intro K s h; revert h; unfold dPick; split
 ·intro h; exact ⟨_, h, fun _ _ h' => h'⟩
 ·intro h; exact h.elim
theorem ev_build (P : Program) (dst : Option Nat) (b : Bool) (t : Option TypeDesc) (z : Option DVal) (ps : List (Nat × DVal)) : EVF dst (dBuild P dst b t z ps) := by
 intro K s h; revert h; unfold dBuild; split
 ·intro h; exact evf_putO _ _ K s h
 ·intro h; exact evf_putO _ _ K s h
 ·intro h; exact h.elim
theorem ev_loadC (size : Nat) (dst : Option Nat) (ag : Option Bool) (cs : List DVal) (off : Nat) : EVF dst (dLoadC size dst ag cs off) := by
 intro K s h; revert h; unfold dLoadC; split
 ·intro h; exact evf_and (evf_put _ _) K s h
 ·intro h; exact evf_putO _ _ K s h
 ·intro h; exact h.elim
theorem ev_loadH (size : Nat) (ag : Option Bool) (dst : Option Nat) (off : Nat) (o : Option DObj) : EVF dst (dLoadH size ag dst off o) := by
 intro K s h; revert h; unfold dLoadH; split
 ·intro h; exact ev_loadC _ _ _ _ _ K s h
 ·intro h; exact h.elim
theorem ev_load (size : Nat) (ag : Option Bool) (dst : Option Nat) (v : DVal) (K : DK) (s : DS) (h : dLoad size ag dst v K s) :
  ∃ d, dput dst d K s ∧ ∀ K' s', (∀ r off, v = .optr r off → s'.heap r = s.heap r) → dput dst d K' s' → dLoad size ag dst v K' s' := by
 unfold dLoad at h;split at h <;> try exact h.elim
 ·obtain ⟨d, h1, h2⟩ := ev_loadC _ _ _ _ _ K s h;exact ⟨d, h1, fun K' s' _ h' => h2 K' s' h'⟩
 ·rename_i r off
  obtain ⟨d, h1, h2⟩ := ev_loadH _ _ _ _ _ K s h;exact ⟨d, h1, fun K' s' hk h' => by show dLoadH _ _ _ _ (s'.heap r) K' s'; rw [hk r off rfl]; exact h2 K' s' h'⟩
theorem ev_nilCheck (dst : Option Nat) (v : DVal) : EVF dst (dNilCheck dst v) := by
 intro K s h; revert h; unfold dNilCheck; split <;> intro h <;> first | exact h.elim | exact ⟨_, h, fun _ _ h' => h'⟩
theorem ev_eqP (dst : Option Nat) (o b : Option Bool) : EVF dst (dEqP dst o b) := by
 intro K s h; revert h; unfold dEqP; split <;> intro h <;> first | exact h.elim | exact ⟨_, h, fun _ _ h' => h'⟩
theorem ev_intBin (k : IntKind) (a b : Int) (dst : Option Nat) (op : BinOp) : EVF dst (fun K s => dIntBin k a b dst K s op) := by
 intro K s h; revert h; unfold dIntBin; split <;> intro h <;> first | exact h.elim | exact ⟨_, h, fun _ _ h' => h'⟩ | exact ⟨_, h.2, fun _ _ h' => ⟨h.1, h'⟩⟩
theorem ev_shift (k : IntKind) (a b : Int) (dst : Option Nat) (op : BinOp) : EVF dst (fun K s => dShift k a b dst K s op) := by
 intro K s h; revert h; unfold dShift; split <;> intro h <;> first | exact h.elim | exact ⟨_, h, fun _ _ h' => h'⟩ | exact ⟨_, h.2, fun _ _ h' => ⟨h.1, h'⟩⟩
theorem ev_strBin (a b : List UInt8) (dst : Option Nat) (op : BinOp) : EVF dst (fun K s => dStrBin a b dst K s op) := by
 intro K s h; revert h; unfold dStrBin; split <;> intro h <;> first | exact h.elim | exact ⟨_, h, fun _ _ h' => h'⟩ | exact ⟨_, h.2, fun _ _ h' => ⟨h.1, h'⟩⟩
theorem ev_binI (op : BinOp) (k k' : IntKind) (a b : Int) (dst : Option Nat) (x : Bool) : EVF dst (fun K s => dBinI op k k' a b dst K s x) := by
 cases x
 ·exact evf_and (ev_intBin k a b dst op)
 ·exact ev_shift k a b dst op
theorem ev_bin (P : Program) (t : TypeId) (c : Bool) (op : BinOp) (dst : Option Nat) (x y : DVal) : EVF dst (dBin P t c op dst x y) := by
 intro K s h; revert h; unfold dBin; split
 ·intro h; exact ev_binI _ _ _ _ _ _ _ K s h
 ·intro h; exact ev_strBin _ _ _ _ K s h
 ·intro h; exact evf_and (evf_and (ev_eqP _ _ _)) K s h
 ·intro h; exact ev_eqP _ _ _ K s h
theorem ev_un (dst : Option Nat) (op : UnOp) (x : DVal) : EVF dst (dUn dst op x) := by
 intro K s h; revert h; unfold dUn; split <;> intro h <;> first | exact h.elim | exact ⟨_, h, fun _ _ h' => h'⟩
theorem ev_convert (dst : Option Nat) (a b : Option TypeDesc) (x : DVal) : EVF dst (dConvert dst a b x) := by
 intro K s h; revert h; unfold dConvert; split <;> intro h <;> first | exact h.elim | exact ⟨_, h, fun _ _ h' => h'⟩
theorem ev_makeIface (t : TypeId) (x : DVal) (dst : Option Nat) (b : Bool) : EVF dst (dMakeIface t x dst b) := by
 intro K s h; revert h; unfold dMakeIface; split <;> intro h <;> first | exact h.elim | exact ⟨_, h, fun _ _ h' => h'⟩
theorem ev_sliceStr (l : List UInt8) (dst : Option Nat) (a b : Option Int) : EVF dst (fun K s => dSliceStr l dst K s a b) := by
 cases a <;> cases b <;> first | exact evf_false _ (fun K s h => h) | exact evf_and (evf_and (evf_and (evf_put _ _)))
theorem ev_sliceV (size : Nat) (cs : List DVal) (len : Nat) (dst : Option Nat) (a b : Option Int) : EVF dst (fun K s => dSliceV size cs len dst K s a b) := by
 cases a <;> cases b <;> first | exact evf_false _ (fun K s h => h) | exact evf_and (evf_and (evf_and (evf_put _ _)))
theorem ev_sliceO (size r off cap : Nat) (dst : Option Nat) (a b c : Option Int) : EVF dst (fun K s => dSliceO size r off cap dst K s a b c) := by
 cases a <;> cases b <;> cases c <;> first | exact evf_false _ (fun K s h => h) | exact evf_and (evf_and (evf_and (evf_and (evf_put _ _))))
theorem ev_sliceN (dst : Option Nat) (a b : Option Int) : EVF dst (fun K s => dSliceN dst K s a b) := by
 cases a <;> cases b <;> first | exact evf_false _ (fun K s h => h) | exact evf_and (evf_and (evf_put _ _))
theorem ev_slice (P : Program) (lo hi : Option DVal) (dst : Option Nat) (t : Option TypeDesc) (v : DVal) (m : Option DVal) (K : DK) (s : DS) (h : dSlice P lo hi dst t v m K s) :
  ∃ d, dput dst d K s ∧ ∀ K' s', (∀ r off, v = .optr r off → s'.heap r = s.heap r) → dput dst d K' s' → dSlice P lo hi dst t v m K' s' := by
 have lift : ∀ {F : DK → DS → Prop}, EVF dst F → F K s → ∃ d, dput dst d K s ∧ ∀ K' s', (∀ r off, v = .optr r off → s'.heap r = s.heap r) → dput dst d K' s' → F K' s' := by
  intro F hF hf;obtain ⟨d, h1, h2⟩ := hF K s hf;exact ⟨d, h1, fun K' s' _ h' => h2 K' s' h'⟩
 unfold dSlice at h;split at h <;> try exact h.elim
 ·exact lift (ev_sliceStr _ _ _ _) h
 ·exact lift (evf_and (ev_sliceN _ _ _)) h
 ·exact lift (evf_and (ev_sliceV _ _ _ _ _ _)) h
 ·exact lift (evf_and (evf_and (ev_sliceO _ _ _ _ _ _ _ _))) h
 ·exact lift (evf_and (evf_and (evf_and (ev_sliceO _ _ _ _ _ _ _ _)))) h
 ·rename_i n e r off
  obtain ⟨h1, h2, h3⟩ := h;obtain ⟨d, h4, h5⟩ := ev_sliceO _ _ _ _ _ _ _ _ K s h3;exact ⟨d, h4, fun K' s' hk h' => ⟨h1, by rw [hk r off rfl]; exact h2, h5 K' s' h'⟩⟩
 ·exact lift (evf_and (evf_and (ev_sliceV _ _ _ _ _ _))) h
theorem ev_fieldAddrF (P : Program) (x : DVal) (dst : Option Nat) (f : Option Field) : EVF dst (dFieldAddrF P x dst f) := by
 cases f with
 | none => exact evf_false _ (fun K s h => h)
 | some f => exact evf_and (evf_putO _ _)
theorem ev_fieldAddr (P : Program) (f : Nat) (x : DVal) (dst : Option Nat) (t : Option TypeDesc) : EVF dst (dFieldAddr P f x dst t) := by
 intro K s h; revert h; unfold dFieldAddr; split
 ·intro h; exact ev_fieldAddrF _ _ _ _ K s h
 ·intro h; exact h.elim
theorem ev_part (size : Nat) (cs : List DVal) (off : Nat) (dst : Option Nat) (b : Option Bool) : EVF dst (dPart size cs off dst b) := by
 intro K s h; revert h; unfold dPart; split
 ·intro h; exact evf_put _ _ K s h
 ·intro h; exact evf_putO _ _ K s h
 ·intro h; exact h.elim
theorem ev_fieldF (P : Program) (cs : List DVal) (dst : Option Nat) (f : Option Field) : EVF dst (dFieldF P cs dst f) := by
 cases f with
 | none => exact evf_false _ (fun K s h => h)
 | some f => exact ev_part _ _ _ _ _
theorem ev_field (P : Program) (f : Nat) (dst : Option Nat) (t : Option TypeDesc) (x : DVal) : EVF dst (dField P f dst t x) := by
 intro K s h; revert h; unfold dField; split
 ·intro h; exact ev_fieldF _ _ _ _ K s h
 ·intro h; exact h.elim
theorem ev_indexAddr (P : Program) (dst : Option Nat) (t : Option TypeDesc) (x i : DVal) : EVF dst (dIndexAddr P dst t x i) := by
 intro K s h; revert h; unfold dIndexAddr; split
 ·intro h; exact evf_and (evf_and (evf_and (evf_and (evf_put _ _)))) K s h
 ·intro h; exact evf_and (evf_and (evf_and (evf_put _ _))) K s h
 ·intro h; exact evf_and (evf_and (evf_and (evf_putO _ _))) K s h
 ·intro h; exact h.elim
theorem ev_index (P : Program) (dst : Option Nat) (t : Option TypeDesc) (x i : DVal) : EVF dst (dIndex P dst t x i) := by
 intro K s h; revert h; unfold dIndex; split
 ·intro h; exact evf_and (evf_and (ev_part _ _ _ _ _)) K s h
 ·intro h; exact evf_and (evf_putO _ _) K s h
 ·intro h; exact h.elim
theorem ev_extract (i : Nat) (dst : Option Nat) (x : DVal) : EVF dst (dExtract i dst x) := by
 intro K s h; revert h; unfold dExtract; split
 ·intro h; exact evf_putO _ _ K s h
 ·intro h; exact h.elim
theorem ev_assertZ (dst : Option Nat) (z : Option DVal) : EVF dst (dAssertZ dst z) := by
 cases z with
 | none => exact evf_false _ (fun K s h => h)
 | some z => exact evf_put _ _
theorem ev_assertIs (v : DVal) (z : Option DVal) (dst : Option Nat) (a b : Bool) : EVF dst (dAssertIs v z dst a b) := by
 cases a <;> cases b
 ·exact evf_false _ (fun K s h => h)
 ·exact evf_put _ _
 ·exact ev_assertZ _ _
 ·exact evf_put _ _
theorem ev_typeAssert (P : Program) (t : TypeId) (ok : Bool) (dst : Option Nat) (b : Bool) (x : DVal) : EVF dst (dTypeAssert P t ok dst b x) := by
 intro K s h; revert h; unfold dTypeAssert; split
 ·intro h; exact ev_assertIs _ _ _ _ _ K s h
 ·intro h; exact evf_and (ev_assertZ _ _) K s h
 ·intro h; exact h.elim
theorem ev_len (dst : Option Nat) (t : Option TypeDesc) (x : DVal) : EVF dst (dLen dst t x) := by
 intro K s h; revert h; unfold dLen; split <;> intro h <;> first | exact h.elim | exact ⟨_, h, fun _ _ h' => h'⟩
theorem ev_lenTs (P : Program) (x : DVal) (dst : Option Nat) (ts : List TypeId) : EVF dst (dLenTs P x dst ts) := by
 intro K s h; revert h; unfold dLenTs; split
 ·intro h; exact ev_len _ _ _ K s h
 ·intro h; exact h.elim
def eagerOp : Op → Bool
 | .move _ | .assign _ | .pick _ _ _ | .build _ _ | .load _ _ | .nilCheck _ | .unOp _ _ _ | .convert _ _ _ | .makeInterface _ _ | .makeFunc _ _ _
 | .slice _ _ _ _ _ | .fieldAddr _ _ _ | .field _ _ _ | .indexAddr _ _ _ | .index _ _ _ | .typeAssert _ _ _ _ | .extract _ _ => true
 | .binOp _ _ _ y _ => !isNilS y
 | .call c => match c.callee with
  | .builtin .len | .builtin .min | .builtin .max => true
  | _ => false
 | _ => false
def lookOp : Op → Option Operand
 | .load _ a => some a
 | .slice _ x _ _ _ => some x
 | .convert _ _ x => some x
 | _ => none
def keepAt (H H' : DHeap) : DVal → Prop
 | .optr r _ => H' r = H r
 | .oslice _ r _ _ _ => H' r = H r
 | _ => True
theorem keepAt_refl {H : DHeap} {v : DVal} : keepAt H H v := by
 unfold keepAt; split <;> trivial
theorem keepAt.ptr {H H' : DHeap} {d : DVal} (h : keepAt H H' d) : ∀ r off, d = .optr r off → H' r = H r := fun r off e => by subst e; exact h
def LookKeep (G : Nat → DVal) (s s' : DS) (op : Op) : Prop := ∀ a, lookOp op = some a → keepAt s.heap s'.heap (dev G s.env a)
theorem strSrc_keep {H H' : DHeap} {x : DVal} (h : keepAt H H' x) : strSrc H' x = strSrc H x := by
 unfold strSrc; split <;> try rfl
 simp only [keepAt] at h;rw [h]
theorem ev_convP (P : Program) (dst : Option Nat) (a b : Option TypeDesc) (x : DVal) (K : DK) (s : DS) (h : dConvP P dst a b x K s) :
  ∃ d, dput dst d K s ∧ ∀ K' s', keepAt s.heap s'.heap x → dput dst d K' s' → dConvP P dst a b x K' s' := by
 revert h; unfold dConvP; split
 ·rintro ⟨h1, h⟩;cases hb : (strSrc s.heap x).bind strOf with
  | none => rw [hb] at h; exact h.elim
  | some l =>
   rw [hb] at h;exact ⟨_, h, fun K' s' hk h' => ⟨h1, by rw [strSrc_keep hk, hb]; exact h'⟩⟩
 ·intro h;obtain ⟨d, h1, h2⟩ := ev_convert _ _ _ _ K s h;exact ⟨d, h1, fun K' s' _ h' => h2 K' s' h'⟩
theorem devs_congr {G : Nat → DVal} {env env' : Nat → DVal} : ∀ {xs : List Operand}, (∀ x ∈ xs, dev G env' x = dev G env x) → devs G env' xs = devs G env xs
 | [], _ => rfl
 | x :: xs, h => by
  simp only [devs];rw [h x (by simp), devs_congr fun y hy => h y (by simp [hy])]
theorem dparts_congr {G : Nat → DVal} {env env' : Nat → DVal} : ∀ {xs : List (Nat × Operand)}, (∀ x ∈ xs.map (·.2), dev G env' x = dev G env x) → dparts G env' xs = dparts G env xs
 | [], _ => rfl
 | (i, x) :: xs, h => by
  simp only [dparts];rw [h x (by simp), dparts_congr fun y hy => h y (by simp at hy ⊢; exact .inr hy)]
theorem devO_congr {G : Nat → DVal} {env env' : Nat → DVal} {x : Option Operand} (h : ∀ y ∈ x.toArray, dev G env' y = dev G env y) : devO G env' x = devO G env x := by
 cases x with
 | none => rfl
 | some x => simp only [devO]; rw [h x (by simp)]
def wantedD (all : List Oper) (env : Nat → DVal) (o : Oper) : Option Bool :=
 match o.guard with
 | none => some true
 | some (j, b) => match dstOf all j with
  | some g => match env g with
   | .bool v => some (v == b)
   | .tuple [] => some false
   | _ => none
  | none => none
end Go.Dl

-- THE DATA LEVEL, PART Z: an operation hangs on its operands alone.
namespace Go.Dl
open Go
section
variable {P : Program} {G : Nat → DVal}
theorem eager_spec {dst : Option Nat} {K : DK} {Q : DExit → DS → Prop} {s : DS} (op : Op) (he : eagerOp op = true) (h : dop P G dst K Q s op) :
  ∃ d, dput dst d K s ∧ ∀ Q' K' s', (∀ x ∈ op.operands, dev G s'.env x = dev G s.env x) → LookKeep G s s' op → dput dst d K' s' → dop P G dst K' Q' s' op := by
 have lift : ∀ {F : DK → DS → Prop}, EVF dst F → F K s → (∀ K' s', (∀ x ∈ op.operands, dev G s'.env x = dev G s.env x) → ∀ Q', F K' s' → dop P G dst K' Q' s' op) →
   ∃ d, dput dst d K s ∧ ∀ Q' K' s', (∀ x ∈ op.operands, dev G s'.env x = dev G s.env x) → LookKeep G s s' op → dput dst d K' s' → dop P G dst K' Q' s' op := by
  intro F hF hf hT;obtain ⟨d, h1, h2⟩ := hF K s hf;exact ⟨d, h1, fun Q' K' s' ha _ h' => hT K' s' ha Q' (h2 K' s' h')⟩
 cases op <;> simp only [eagerOp] at he <;> try (cases he; done)
 case move x => exact lift (evf_put _ _) h fun K' s' ha Q' h' => by simp only [dop]; rw [ha x (by simp [Op.operands])]; exact h'
 case assign x => exact lift (evf_put _ _) h fun K' s' ha Q' h' => by simp only [dop]; rw [ha x (by simp [Op.operands])]; exact h'
 case pick c a b => exact lift (ev_pick _ _ _ _) h fun K' s' ha Q' h' => by simp only [dop]; rw [ha c (by simp [Op.operands]), ha a (by simp [Op.operands]), ha b (by simp [Op.operands])]; exact h'
 case build t ps =>
  exact lift (ev_build _ _ _ _ _ _) h fun K' s' ha Q' h' => by
   simp only [dop]; rw [dparts_congr (env := s.env) (fun x hx => ha x (by simpa [Op.operands] using hx))]; exact h'
 case load t a =>
  obtain ⟨d, h1, h2⟩ := ev_load _ _ _ _ K s h;exact ⟨d, h1, fun Q' K' s' ha hk h' => by simp only [dop]; rw [ha a (by simp [Op.operands])]; exact h2 K' s' (hk a rfl).ptr h'⟩
 case nilCheck x => exact lift (ev_nilCheck _ _) h fun K' s' ha Q' h' => by simp only [dop]; rw [ha x (by simp [Op.operands])]; exact h'
 case binOp op t x y _ =>
  have hn : isNilS y = false := by simpa using he
  simp only [dop, hn, dBinX_false] at h;exact lift (ev_bin _ _ _ _ _ _ _) h fun K' s' ha Q' h' => by simp only [dop, hn, dBinX_false]; rw [ha x (by simp [Op.operands]), ha y (by simp [Op.operands])]; exact h'
 case unOp op t x => exact lift (ev_un _ _ _) h fun K' s' ha Q' h' => by simp only [dop]; rw [ha x (by simp [Op.operands])]; exact h'
 case convert a t x =>
  obtain ⟨d, h1, h2⟩ := ev_convP _ _ _ _ _ K s h;exact ⟨d, h1, fun Q' K' s' ha hk h' => by simp only [dop]; rw [ha x (by simp [Op.operands])]; exact h2 K' s' (hk x rfl) h'⟩
 case makeInterface t x => exact lift (ev_makeIface _ _ _ _) h fun K' s' ha Q' h' => by simp only [dop]; rw [ha x (by simp [Op.operands])]; exact h'
 case makeFunc fn fs cs =>
  exact lift (evf_put _ _) h fun K' s' ha Q' h' => by
   simp only [dop]; rw [devs_congr (env := s.env) (xs := fs.toList) (fun x hx => ha x (by simp at hx; simp [Op.operands, hx])), devs_congr (env := s.env) (xs := cs.toList) (fun x hx => ha x (by simp at hx; simp [Op.operands, hx]))]; exact h'
 case slice t x lo hi mx =>
  obtain ⟨d, h1, h2⟩ := ev_slice _ _ _ _ _ _ _ K s h;exact ⟨d, h1, fun Q' K' s' ha hk h' => by
   simp only [dop];rw [ha x (by simp [Op.operands]), devO_congr (x := lo) (env := s.env) (fun y hy => ha y (by simp at hy; simp [Op.operands, hy])), devO_congr (x := hi) (env := s.env) (fun y hy => ha y (by simp at hy; simp [Op.operands, hy])), devO_congr (x := mx) (env := s.env) (fun y hy => ha y (by simp at hy; simp [Op.operands, hy]))];exact h2 K' s' (hk x rfl).ptr h'⟩
 case fieldAddr t x f => exact lift (ev_fieldAddr _ _ _ _ _) h fun K' s' ha Q' h' => by simp only [dop]; rw [ha x (by simp [Op.operands])]; exact h'
 case field t x f => exact lift (ev_field _ _ _ _ _) h fun K' s' ha Q' h' => by simp only [dop]; rw [ha x (by simp [Op.operands])]; exact h'
 case indexAddr t x i => exact lift (ev_indexAddr _ _ _ _ _) h fun K' s' ha Q' h' => by simp only [dop]; rw [ha x (by simp [Op.operands]), ha i (by simp [Op.operands])]; exact h'
 case index t x i => exact lift (ev_index _ _ _ _ _) h fun K' s' ha Q' h' => by simp only [dop]; rw [ha x (by simp [Op.operands]), ha i (by simp [Op.operands])]; exact h'
 case typeAssert x t u ok => exact lift (ev_typeAssert _ _ _ _ _ _) h fun K' s' ha Q' h' => by simp only [dop]; rw [ha x (by simp [Op.operands])]; exact h'
 case extract x i => exact lift (ev_extract _ _ _) h fun K' s' ha Q' h' => by simp only [dop]; rw [ha x (by simp [Op.operands])]; exact h'
 case call c =>
  have hargs : ∀ s' : DS, (∀ x ∈ (Op.call c).operands, dev G s'.env x = dev G s.env x) → devs G s'.env c.args.toList = devs G s.env c.args.toList := by
   intro s' ha;exact devs_congr fun x hx => ha x (by simp at hx; simp [Op.operands, Call.operands, hx])
  simp only [dop] at h ⊢
  cases hc : c.callee with
  | value f => rw [hc] at he; cases he
  | invoke r m => rw [hc] at he; cases he
  | builtin b =>
   rw [hc] at h he;simp only [dCallee] at h ⊢
   cases b <;> simp only at he <;> try (cases he; done)
   case len =>
    cases hx : devs G s.env c.args.toList with
    | nil => rw [hx] at h; exact h.elim
    | cons x xs =>
     cases xs with
     | cons y ys => rw [hx] at h; exact h.elim
     | nil =>
      rw [hx] at h;obtain ⟨d, h1, h2⟩ := ev_lenTs P x dst c.argTypes.toList K s h;exact ⟨d, h1, fun Q' K' s' ha _ h' => by rw [hargs s' ha, hx]; exact h2 K' s' h'⟩
   case min =>
    obtain ⟨d, h1, h2⟩ := evf_putO dst (dMinMax false (devs G s.env c.args.toList)) K s h;exact ⟨d, h1, fun Q' K' s' ha _ h' => by rw [hargs s' ha]; exact h2 K' s' h'⟩
   case max =>
    obtain ⟨d, h1, h2⟩ := evf_putO dst (dMinMax true (devs G s.env c.args.toList)) K s h;exact ⟨d, h1, fun Q' K' s' ha _ h' => by rw [hargs s' ha]; exact h2 K' s' h'⟩
theorem dop_congr {dst : Option Nat} {K K' : DK} {Q Q' : DExit → DS → Prop} {s s' : DS} (op : Op) (ha : ∀ x ∈ op.operands, dev G s'.env x = dev G s.env x) (hh : s'.heap = s.heap)
  (hK : ∀ d h, K ⟨updO s.env dst d, h⟩ → K' ⟨updO s'.env dst d, h⟩) (hQ : ∀ v h, Q (.panic v) ⟨s.env, h⟩ → Q' (.panic v) ⟨s'.env, h⟩)
  (h : dop P G dst K Q s op) : dop P G dst K' Q' s' op := by
 by_cases he : eagerOp op = true
 ·obtain ⟨d, h1, h2⟩ := eager_spec op he h;refine h2 Q' K' s' ha (fun a _ => by rw [hh]; exact keepAt_refl) ?_;show K' ⟨updO s'.env dst d, s'.heap⟩;rw [hh]; exact hK _ _ h1
 ·have newP : ∀ {cs e}, DNewP cs e dst K s → DNewP cs e dst K' s' := fun hn r hr => by
   rw [hh] at hr ⊢; exact hK _ _ (hn r hr)
  have newS : ∀ {cs e sz l c}, DNewS cs e sz l c dst K s → DNewS cs e sz l c dst K' s' := fun hn r hr => by
   rw [hh] at hr ⊢; exact hK _ _ (hn r hr)
  have panic : ∀ {x}, dPanic Q s x → dPanic Q' s' x := by
   intro x hx;unfold dPanic at hx ⊢
   split at hx <;> try exact hx.elim
   have := hQ _ _ hx;rw [← hh] at this; exact this
  cases op <;> (try exact (he rfl).elim) <;> (try exact h.elim)
  case binOp op t x y t' =>
   have hn : isNilS y = true := by
    simp only [eagerOp] at he;cases hy : isNilS y with
    | true => rfl
    | false => rw [hy] at he; exact absurd rfl he
   simp only [dop] at h ⊢
   rw [ha x (by simp [Op.operands]), ha y (by simp [Op.operands])];rw [hn] at h ⊢
   generalize dev G s.env x = dx at h ⊢
   generalize dev G s.env y = dy at h ⊢
   have put : ∀ d, dput dst d K s → dput dst d K' s' := fun d h => by unfold dput at *; rw [hh]; exact hK _ _ h
   have rest : dBin P t (isConst x || isConst y) op dst dx dy K s → dBin P t (isConst x || isConst y) op dst dx dy K' s' := fun h => by
    obtain ⟨d, h1, h2⟩ := ev_bin _ _ _ _ _ _ _ K s h;exact h2 K' s' (put d h1)
   cases dx <;> first | exact rest h | skip
   simp only [dBinX] at h ⊢
   refine ⟨h.1, fun b hb => ?_⟩;obtain ⟨d, h1, h2⟩ := ev_eqP _ _ _ K s (h.2 b hb);exact h2 K' s' (put d h1)
  case range t x =>
   simp only [dop] at h ⊢
   rw [ha x (by simp [Op.operands])];generalize P.underlying t = u at h ⊢
   generalize dev G s.env x = dx at h ⊢
   unfold dRange at h ⊢
   split at h <;> try exact h.elim
   exact fun r hr => by rw [hh] at hr ⊢; exact hK _ _ (h r hr)
  case next x b =>
   simp only [dop] at h ⊢
   rw [ha x (by simp [Op.operands])];generalize dev G s.env x = dx at h ⊢
   unfold dNext at h ⊢
   split at h <;> try exact h.elim
   rw [hh];unfold dNextO at h ⊢
   split at h <;> try exact h.elim
   refine ⟨fun hp => by rw [hh]; exact hK _ _ (h.1 hp), fun hp => ?_⟩;have := h.2 hp;unfold dput at *; rw [hh]; exact hK _ _ this
  case makeMap t r =>
   simp only [dop] at h ⊢
   rw [devO_congr (x := r) (env := s.env) (fun y hy => ha y (by simp at hy; simp [Op.operands, hy]))];generalize P.underlying t = u at h ⊢
   generalize devO G s.env r = v at h ⊢
   unfold dMakeMap at h ⊢
   split at h <;> try exact h.elim
   all_goals exact fun r hr => by rw [hh] at hr ⊢; exact hK _ _ (h r hr)
  case lookup t x k ok =>
   simp only [dop] at h ⊢
   rw [ha x (by simp [Op.operands]), ha k (by simp [Op.operands])];generalize P.underlying t = u at h ⊢
   generalize dev G s.env x = dx at h ⊢
   generalize dev G s.env k = dk at h ⊢
   have put : ∀ d, dput dst d K s → dput dst d K' s' := fun d h => by unfold dput at *; rw [hh]; exact hK _ _ h
   have hF : ∀ es z r, dLookF es ok dst z r K s → dLookF es ok dst z r K' s' := fun es z r h => by
    unfold dLookF at h ⊢
    split at h <;> try exact h.elim
    ·obtain ⟨p, h1, h2⟩ := h; exact ⟨p, h1, put _ h2⟩
    ·exact put _ h
   unfold dLookup at h ⊢
   split at h <;> try exact h.elim
   ·refine ⟨h.1, ?_⟩;have h2 := h.2;rw [hh];generalize s.heap _ = ob at h2 ⊢
    unfold dLookO at h2 ⊢
    split at h2 <;> try exact h2.elim
    exact hF _ _ _ h2
   ·exact ⟨h.1, hF _ _ _ h.2⟩
  case mapUpdate t m k x =>
   simp only [dop] at h ⊢
   rw [ha m (by simp [Op.operands]), ha k (by simp [Op.operands]), ha x (by simp [Op.operands])];generalize P.underlying t = u at h ⊢
   generalize dev G s.env m = dm at h ⊢
   generalize dev G s.env k = dk at h ⊢
   generalize dev G s.env x = dx at h ⊢
   unfold dMapUpd at h ⊢
   split at h <;> try exact h.elim
   obtain ⟨h1, h2, h3⟩ := h;refine ⟨h1, h2, ?_⟩;rw [hh];generalize s.heap _ = ob at h3 ⊢
   unfold dMapUpdO at h3 ⊢
   split at h3 <;> try exact h3.elim
   refine ⟨h3.1, ?_⟩;have h4 := h3.2;unfold dMapUpdF at h4 ⊢
   split at h4 <;> try exact h4.elim
   subst h1;rw [hh]; exact hK dundef _ h4
  case insert t m k x =>
   simp only [dop] at h ⊢
   rw [ha m (by simp [Op.operands]), ha k (by simp [Op.operands]), ha x (by simp [Op.operands])];generalize P.underlying t = u at h ⊢
   generalize dev G s.env m = dm at h ⊢
   generalize dev G s.env k = dk at h ⊢
   generalize dev G s.env x = dx at h ⊢
   unfold dMapUpd at h ⊢
   split at h <;> try exact h.elim
   obtain ⟨h1, h2, h3⟩ := h;refine ⟨h1, h2, ?_⟩;rw [hh];generalize s.heap _ = ob at h3 ⊢
   unfold dMapUpdO at h3 ⊢
   split at h3 <;> try exact h3.elim
   refine ⟨h3.1, ?_⟩;have h4 := h3.2;unfold dMapUpdF at h4 ⊢
   split at h4 <;> try exact h4.elim
   subst h1;rw [hh]; exact hK dundef _ h4
  case alloc e =>
   simp only [dop] at h ⊢
   generalize zeroOf P e = z at h ⊢
   cases z with
   | none => exact h.elim
   | some z => exact newP h
  case box e x => simp only [dop] at h ⊢; rw [ha x (by simp [Op.operands])]; exact newP h
  case buildSlice t n ps =>
   simp only [dop] at h ⊢
   rw [dparts_congr (env := s.env) (fun x hx => ha x (by simpa [Op.operands] using hx))];generalize dparts G s.env ps.toList = qs at h ⊢
   generalize P.underlying t = u at h ⊢
   unfold dBuildSlice at h ⊢
   split at h <;> try exact h.elim
   show dBuildSliceZ _ _ _ _ _ _ _ _;generalize zeroOf P _ = z at h ⊢
   cases z with
   | none => exact h.elim
   | some z =>
    obtain ⟨h1, h2, h3⟩ := h;refine ⟨h1, h2, ?_⟩;generalize dfill _ _ _ = f at h3 ⊢
    cases f with
    | none => exact h3.elim
    | some f => exact newS h3
  case store t a x =>
   simp only [dop] at h ⊢
   obtain ⟨h1, h2⟩ := h;refine ⟨h1, ?_⟩;rw [ha a (by simp [Op.operands]), ha x (by simp [Op.operands])];generalize dev G s.env a = va at h2 ⊢
   generalize dev G s.env x = vx at h2 ⊢
   unfold dStore at h2 ⊢
   split at h2 <;> try exact h2.elim
   rename_i hx0 hx1 hx2 hx3
   rw [hh];generalize s.heap _ = ob at h2 ⊢
   unfold dStoreH at h2 ⊢
   split at h2 <;> try exact h2.elim
   obtain ⟨g1, g2, g3, g4⟩ := h2;refine ⟨g1, g2, g3, ?_⟩;rw [hh];exact hK dundef _ g4
  case makeSlice t l c =>
   simp only [dop] at h ⊢
   rw [ha l (by simp [Op.operands]), ha c (by simp [Op.operands])];generalize dev G s.env l = vl at h ⊢
   generalize dev G s.env c = vc at h ⊢
   generalize P.underlying t = u at h ⊢
   unfold dMakeSlice at h ⊢
   split at h <;> try exact h.elim
   show dMakeSliceZ _ _ _ _ _ _ _ _ _;generalize zeroOf P _ = z at h ⊢
   cases z with
   | none => exact h.elim
   | some z =>
    obtain ⟨h1, h2, h3, h4, h5, h6, h7⟩ := h;exact ⟨h1, h2, h3, h4, h5, h6, newS h7⟩
  case panic x => simp only [dop] at h ⊢; rw [ha x (by simp [Op.operands])]; exact panic h
  case call c =>
   have hargs : devs G s'.env c.args.toList = devs G s.env c.args.toList :=
    devs_congr fun x hx => ha x (by simp at hx; simp [Op.operands, Call.operands, hx])
   simp only [dop] at h ⊢
   cases hc : c.callee with
   | invoke r m => rw [hc] at h; exact h.elim
   | value f =>
    rw [hc] at h;simp only [dCallee] at h ⊢
    rw [hargs, ha f (by simp [Op.operands, Call.operands, hc])];generalize dev G s.env f = vf at h ⊢
    unfold dCallV at h ⊢
    split at h <;> try exact h.elim
    all_goals
     rw [hh];refine h.mono ?_;intro e H' hr;cases e with
     | ret v => exact hK _ _ hr
     | panic v => exact hQ _ _ hr
   | builtin b =>
    rw [hc] at h;simp only [dCallee] at h ⊢
    rw [hargs];generalize devs G s.env c.args.toList = vs at h ⊢
    cases b <;> (try (cases vs <;> exact h.elim)) <;> (try (exfalso; refine he ?_; simp [eagerOp, hc]; done))
    case cap =>
     cases vs with
     | nil => exact h.elim
     | cons x vs => ?_
     cases vs with
     | cons z vs => exact h.elim
     | nil => ?_
     simp only [dBuiltin] at h ⊢
     generalize c.argTypes.toList = ts at h ⊢
     unfold dCapTs at h ⊢
     split at h <;> try exact h.elim
     show dCap _ _ _ _ _;generalize P.underlying _ = u at h ⊢
     unfold dCap at h ⊢
     split at h <;> try exact h.elim
     ·show K' ⟨_, s'.heap⟩;rw [hh]; exact hK _ _ h
     ·intro c hc;show K' ⟨_, s'.heap⟩;rw [hh]; exact hK _ _ (h c hc)
     ·intro c hc hc';show K' ⟨_, s'.heap⟩;rw [hh]; exact hK _ _ (h c hc hc')
    case clear =>
     cases vs with
     | nil => exact h.elim
     | cons x vs => ?_
     cases vs with
     | cons z vs => exact h.elim
     | nil => ?_
     simp only [dBuiltin] at h ⊢
     generalize c.argTypes.toList = ts at h ⊢
     unfold dClearTs at h ⊢
     split at h <;> try exact h.elim
     show dClear _ _ _ _ _ _;generalize P.underlying _ = u at h ⊢
     unfold dClear at h ⊢
     split at h <;> try exact h.elim
     generalize zeroOf _ _ = zo at h ⊢
     unfold dClearS at h ⊢
     split at h <;> try exact h.elim
     ·show K' ⟨_, s'.heap⟩;rw [hh]; exact hK _ _ h
     ·refine ⟨h.1, h.2.1, ?_⟩;have h2 := h.2.2;rw [hh];generalize s.heap _ = ob at h2 ⊢
      unfold dClearO at h2 ⊢
      split at h2 <;> try exact h2.elim
      refine ⟨h2.1, h2.2.1, h2.2.2.1, ?_⟩;rw [hh]; exact hK _ _ h2.2.2.2
    case delete =>
     cases vs with
     | nil => exact h.elim
     | cons x vs => ?_
     cases vs with
     | nil => exact h.elim
     | cons y vs => ?_
     cases vs with
     | cons z vs => exact h.elim
     | nil => ?_
     simp only [dBuiltin] at h ⊢
     generalize c.argTypes.toList = ts at h ⊢
     unfold dMapDelTs at h ⊢
     split at h <;> try exact h.elim
     show dMapDel _ _ _ _ _ _ _;generalize P.underlying _ = u at h ⊢
     unfold dMapDel at h ⊢
     split at h <;> try exact h.elim
     refine ⟨h.1, ?_⟩;have h2 := h.2;rw [hh];generalize s.heap _ = ob at h2 ⊢
     unfold dMapDelO at h2 ⊢
     split at h2 <;> try exact h2.elim
     unfold dMapDelF at h2 ⊢
     split at h2 <;> try exact h2.elim
     rw [hh]; exact hK _ _ h2
    case append =>
     cases vs with
     | nil => exact h.elim
     | cons x vs => ?_
     cases vs with
     | nil => exact h.elim
     | cons y vs => ?_
     cases vs with
     | cons z vs => exact h.elim
     | nil => ?_
     simp only [dBuiltin] at h ⊢
     generalize c.argTypes.toList = ts at h ⊢
     unfold dAppendTs at h ⊢
     split at h <;> try exact h.elim
     show dAppendU _ _ _ _ _ _ _ _ _;generalize isIntT _ = it at h ⊢
     cases it with
     | true =>
      simp only [dAppendU] at h ⊢
      generalize P.underlying _ = u at h ⊢
      unfold dAppendX at h ⊢
      split at h <;> try exact h.elim
      generalize zeroOf _ _ = zo at h ⊢
      unfold dAppendI at h ⊢
      split at h <;> try exact h.elim
      refine ⟨h.1, h.2.1, fun hn => ?_, fun hn => ⟨(h.2.2.2 hn).1, (h.2.2.2 hn).2.1, (h.2.2.2 hn).2.2.1, newS (h.2.2.2 hn).2.2.2⟩⟩;have := h.2.2.1 hn;show K' ⟨_, s'.heap⟩;rw [hh]; exact hK _ _ this
     | false => ?_
     simp only [dAppendU] at h ⊢
     generalize notInt _ = u' at h ⊢
     generalize P.underlying _ = u at h ⊢
     unfold dAppend at h ⊢
     split at h <;> try exact h.elim
     obtain ⟨g1, g2, g3, g4, g5, g6⟩ := h;refine ⟨g1, g2, g3, g4, g5, ?_⟩;rw [hh];generalize srcCells _ _ _ = sc at g6 ⊢
     unfold dAppendN at g6 ⊢
     split at g6 <;> try exact g6.elim
     obtain ⟨k1, k2, k3⟩ := g6;refine ⟨k1, k2, ?_⟩;unfold dAppendTo at k3 ⊢
     split at k3 <;> try exact k3.elim
     ·refine ⟨fun hn => ?_, fun hn => ⟨(k3.2 hn).1, newS (k3.2 hn).2⟩⟩;have := k3.1 hn;show K' ⟨_, s'.heap⟩;rw [hh]; exact hK _ _ this
     ·refine ⟨k3.1, ?_⟩;have k4 := k3.2;rw [hh];generalize s.heap _ = ob at k4 ⊢
      unfold dAppendO at k4 ⊢
      split at k4 <;> try exact k4.elim
      obtain ⟨m1, m2, m3⟩ := k4;refine ⟨m1, fun hl => ⟨(m2 hl).1, ?_⟩, fun hl => ⟨(m3 hl).1, (m3 hl).2.1, fun r' pre hr hp => ?_⟩⟩
      ·rw [hh]; exact hK _ _ (m2 hl).2
      ·rw [hh] at hr ⊢; exact hK _ _ ((m3 hl).2.2 r' pre hr hp)
    case panic =>
     cases vs with
     | nil => exact h.elim
     | cons x xs => cases xs with
      | nil => exact panic h
      | cons y ys => exact h.elim
end
end Go.Dl

-- THE DATA LEVEL, PART 1: plans of regions whose order is drawn.
namespace Go.Dl
open Go
inductive Plan where
 | done
 | take (i : Nat) (p : Plan)
 | go (i : Nat) (ls : List Nat) (p : Plan)
 | alt (p q : Plan)
 deriving Inhabited
def operAt : List Oper → Nat → Option Oper
 | [], _ => none
 | o :: _, 0 => some o
 | _ :: r, n + 1 => operAt r n
def dGuardK (P : Program) (G : Nat → DVal) (K : DK) (Q : DExit → DS → Prop) (dst : Option Nat) (op : Op) (s : DS) : Bool → DVal → Prop
 | true, .bool true => dop P G dst K Q s op
 | true, .bool false => dput dst dundef K s
 | false, .bool true => dput dst dundef K s
 | false, .bool false => dop P G dst K Q s op
 | true, .tuple [] => dput dst dundef K s
 | false, .tuple [] => dput dst dundef K s
 | _, _ => False
def dGuardKO (P : Program) (G : Nat → DVal) (K : DK) (Q : DExit → DS → Prop) (dst : Option Nat) (op : Op) (s : DS) (b : Bool) : Option Nat → Prop
 | some g => dGuardK P G K Q dst op s b (s.env g)
 | none => False
def dOne (P : Program) (G : Nat → DVal) (all : List Oper) (K : DK) (Q : DExit → DS → Prop) (s : DS) (dst : Option Nat) (op : Op) : Option (Nat × Bool) → Prop
 | none => dop P G dst K Q s op
 | some (j, b) => dGuardKO P G K Q dst op s b (dstOf all j)
def dAt (P : Program) (G : Nat → DVal) (all : List Oper) (K : DK) (Q : DExit → DS → Prop) (s : DS) : Option Oper → Prop
 | some o => dOne P G all K Q s o.dst o.op o.guard
 | none => False
def keepO (G : Nat → DVal) (s : DS) (H' : DHeap) : Option Operand → Prop
 | some a => keepAt s.heap H' (dev G s.env a)
 | none => True
def lookAtO : Option Oper → Option Operand
 | some o => lookOp o.op
 | none => none
def keepL (G : Nat → DVal) (all : List Oper) (s : DS) (H' : DHeap) : List Nat → Prop
 | [] => True
 | l :: ls => keepO G s H' (lookAtO (operAt all l)) ∧ keepL G all s H' ls
def KeepK (G : Nat → DVal) (all : List Oper) (ls : List Nat) (s : DS) (K : DK) : DK := fun s' => keepL G all s s'.heap ls ∧ K s'
def dplan (P : Program) (G : Nat → DVal) (all : List Oper) (Q : DExit → DS → Prop) : Plan → DS → Prop
 | .done, s => Q .normal s
 | .take i p, s => dAt P G all (dplan P G all Q p) Q s (operAt all i)
 | .go i ls p, s => dAt P G all (KeepK G all ls s (dplan P G all Q p)) Q s (operAt all i)
 | .alt p q, s => dplan P G all Q p s ∧ dplan P G all Q q s
def QP (Q : DExit → DS → Prop) : DExit → DS → Prop
 | .panic v, s => ∀ env, Q (.panic v) ⟨env, s.heap⟩
 | .normal, s => Q .normal s
 | _, _ => False
def depB (all : List Oper) (k j : Nat) : Bool :=
 match operAt all k with
 | some o => o.after.any fun e => Region.binds .any e && e.on == j
 | none => false
def apartB (all : List Oper) (j k : Nat) : Bool :=
 match operAt all j, operAt all k with
 | some x, some y => x.apart all.toArray y
 | _, _ => true
def eagerB (all : List Oper) (i : Nat) : Bool :=
 match operAt all i with
 | some o => eagerOp o.op
 | none => false
def depsIn (all : List Oper) (k : Nat) (T : List Nat) : Bool :=
 match operAt all k with
 | some o => o.after.all fun e => !Region.binds .any e || T.contains e.on
 | none => false
def dstAt (all : List Oper) (j : Nat) : Option Nat := (operAt all j).bind (·.dst)
def firsts : Plan → List Nat
 | .go i _ _ => [i]
 | .alt p q => firsts p ++ firsts q
 | _ => []
def cover (all : List Oper) (T : List Nat) : Plan → Bool
 | .done => true
 | .take _ _ => true
 | p => (List.range all.length).all fun k => T.contains k || (firsts p).contains k || !depsIn all k T
def slotKept (all : List Oper) (T : List Nat) (l : Nat) : Operand → Bool
 | .tmp t => T.all fun m => dstAt all m != some t || depB all l m
 | _ => true
def depsL (all : List Oper) (k : Nat) : List Nat :=
 match operAt all k with
 | some o => (o.after.toList.filter fun e => Region.binds .any e).map (·.on)
 | none => []
def ancDown (all : List Oper) : Nat → List Nat → List Nat
 | 0, S => S
 | k + 1, S => ancDown all k (if S.contains k then depsL all k ++ S else S)
def ancs (all : List Oper) (i : Nat) : List Nat := ancDown all (i + 1) [i]
def looksOk (all : List Oper) (T : List Nat) (i : Nat) (ls : List Nat) : Bool :=
 T.all fun l => match lookAtO (operAt all l) with
  | none => true
  | some a => depB all i l || (l != i && (ancs all i).contains l) || (ls.contains l && slotKept all T l a)
def planOk (all : List Oper) : Plan → List Nat → Bool
 | .done, T => (List.range all.length).all fun k => T.contains k
 | .take i p, T => decide (i < all.length) && !T.contains i && eagerB all i && depsIn all i T &&
   ((List.range all.length).all fun k => T.contains k || k == i || depB all k i || apartB all i k) && cover all (i :: T) p && planOk all p (i :: T)
 | .go i ls p, T => decide (i < all.length) && !T.contains i && depsIn all i T && looksOk all T i ls && cover all (i :: T) p && planOk all p (i :: T)
 | .alt p q, T => planOk all p T && planOk all q T
section
variable {P : Program} {G : Nat → DVal} {N : Nat} {all : List Oper} {Q : DExit → DS → Prop} {s0 : DS} {w0 : World}
theorem operAt_eq : ∀ (all : List Oper) (j : Nat), operAt all j = all[j]?
 | [], j => by simp [operAt]
 | o :: r, 0 => by simp [operAt]
 | o :: r, j + 1 => by simp [operAt, operAt_eq r j]
theorem dAt_wanted {o : Oper} {K : DK} {s : DS} : dAt P G all K Q s (some o) ↔
  (wantedD all s.env o = some true ∧ dop P G o.dst K Q s o.op) ∨ (wantedD all s.env o = some false ∧ dput o.dst dundef K s) := by
 simp only [dAt];unfold dOne wantedD;cases o.guard with
 | none => simp
 | some jb =>
  obtain ⟨j, b⟩ := jb;simp only;cases dstOf all j with
  | none => simp [dGuardKO]
  | some g =>
   simp only [dGuardKO];cases hv : s.env g <;> (try (cases b <;> simp [dGuardK]; done))
   case bool v => cases b <;> cases v <;> simp [dGuardK]
   case tuple vs => cases vs <;> cases b <;> simp [dGuardK]
def EVal (P : Program) (G : Nat → DVal) (all : List Oper) (j : Nat) (s : DS) (d : DVal) : Prop :=
 ∃ o, operAt all j = some o ∧ eagerOp o.op = true ∧
  ((wantedD all s.env o = some true ∧ ∀ K Q, dput o.dst d K s → dop P G o.dst K Q s o.op) ∨ (wantedD all s.env o = some false ∧ d = dundef))
def Seq (P : Program) (G : Nat → DVal) (all : List Oper) : DS → List Nat → DS → Prop
 | s, [], s' => s' = s
 | s, j :: js, s' => ∃ d, EVal P G all j s d ∧ Seq P G all ⟨updO s.env (dstAt all j) d, s.heap⟩ js s'
def looks (all : List Oper) (j : Nat) : List Nat :=
 match operAt all j with
 | some o => o.looksAt all.toArray
 | none => []
theorem looks_dev {o : Oper} {env env' : Nat → DVal} (h : ∀ t ∈ o.looksAt all.toArray, env' t = env t) : ∀ x ∈ o.op.operands, dev G env' x = dev G env x := by
 intro x hx;cases x with
 | tmp t =>
  refine h t ?_;unfold Oper.looksAt;refine List.mem_append_left _ (List.mem_filterMap.2 ⟨.tmp t, by simpa using hx, rfl⟩)
 | _ => rfl
theorem looks_wanted {o : Oper} {env env' : Nat → DVal} (h : ∀ t ∈ o.looksAt all.toArray, env' t = env t) : wantedD all env' o = wantedD all env o := by
 unfold wantedD;cases hg : o.guard with
 | none => rfl
 | some jb =>
  obtain ⟨j, b⟩ := jb;simp only;cases hj : dstOf all j with
  | none => rfl
  | some g =>
   simp only;rw [h g];unfold Oper.looksAt;refine List.mem_append_right _ ?_;rw [hg];rw [dstOf_eq] at hj;simp [hj]
theorem EVal.agree {j : Nat} {s s' : DS} {d : DVal} (h : EVal P G all j s d) (ha : ∀ t ∈ looks all j, s'.env t = s.env t)
  (hk : ∀ o a, operAt all j = some o → lookOp o.op = some a → keepAt s.heap s'.heap (dev G s.env a)) : EVal P G all j s' d := by
 obtain ⟨o, ho, he, h⟩ := h;have ha' : ∀ t ∈ o.looksAt all.toArray, s'.env t = s.env t := by
  intro t ht; exact ha t (by unfold looks; rw [ho]; exact ht)
 refine ⟨o, ho, he, ?_⟩;rw [looks_wanted ha'];rcases h with ⟨hw, h⟩ | h
 ·refine .inl ⟨hw, fun K' Q' hp => ?_⟩;have h1 := h (fun s1 => s1 = ⟨updO s.env o.dst d, s.heap⟩) Q' rfl;obtain ⟨d', hd', hall⟩ := eager_spec o.op he h1;refine hall Q' K' s' (looks_dev (all := all) ha') ?_ ?_
  ·exact fun a hl => hk o a ho hl
  ·unfold dput at hd' hp ⊢
   have he : updO s.env o.dst d' = updO s.env o.dst d := congrArg DS.env hd';have : updO s'.env o.dst d' = updO s'.env o.dst d := by
    cases hdst : o.dst with
    | none => rfl
    | some t =>
     rw [hdst] at he;have h2 := congrFun he t;simp [updO, upd] at h2;rw [h2]
   rw [this]; exact hp
 ·exact .inr h
theorem updO_ne {env : Nat → DVal} {dst : Option Nat} {d : DVal} {t : Nat} (h : dst ≠ some t) : updO env dst d t = env t := by
 cases dst with
 | none => rfl
 | some k => simp only [updO, upd]; rw [if_neg]; intro e; exact h (by rw [e])
theorem updO_comm {env : Nat → DVal} {x y : Option Nat} {d e : DVal} (h : ∀ t, x = some t → y ≠ some t) : updO (updO env x d) y e = updO (updO env y e) x d := by
 cases x with
 | none => rfl
 | some i =>
  cases y with
  | none => rfl
  | some k =>
   have hne : k ≠ i := fun hh => h i rfl (by rw [hh]);funext t;simp only [updO, upd];by_cases h1 : t = k
   ·subst h1; rw [if_pos rfl, if_neg hne, if_pos rfl]
   ·rw [if_neg h1];by_cases h2 : t = i
    ·rw [if_pos h2, if_pos h2]
    ·rw [if_neg h2, if_neg h2, if_neg h1]
structure Apart (all : List Oper) (j k : Nat) : Prop where
 a : ∀ t, dstAt all j = some t → t ∉ looks all k
 b : ∀ t, dstAt all j = some t → dstAt all k ≠ some t
 c : ∀ t, dstAt all k = some t → t ∉ looks all j
theorem apartB_spec {j k : Nat} {x y : Oper} (hx : operAt all j = some x) (hy : operAt all k = some y) (h : apartB all j k = true) : Apart all j k := by
 unfold apartB at h;rw [hx, hy] at h;obtain ⟨h1, h2, h3⟩ := Oper.apart_spec h;refine ⟨?_, ?_, ?_⟩ <;> simp only [dstAt, looks, hx, hy, Option.bind_some] <;> assumption
theorem Seq.front : ∀ {A : List Nat} {k : Nat} {B : List Nat} {s s' : DS}, (∀ j ∈ A, Apart all j k) → Seq P G all s (A ++ k :: B) s' → Seq P G all s (k :: (A ++ B)) s'
 | [], k, B, s, s', _, h => h
 | j :: A, k, B, s, s', hA, h => by
  obtain ⟨d, hd, h⟩ := h;obtain ⟨dk, hk, h⟩ := Seq.front (fun i hi => hA i (by simp [hi])) h;have ap := hA j (by simp);refine ⟨dk, hk.agree (fun t ht => (updO_ne (fun e => ap.a t e ht)).symm) (fun _ _ _ _ => keepAt_refl), d, hd.agree (fun t ht => updO_ne (fun e => ap.c t e ht)) (fun _ _ _ _ => keepAt_refl), ?_⟩;show Seq P G all ⟨updO (updO s.env _ dk) _ d, s.heap⟩ (A ++ B) s';rw [updO_comm (fun t h1 h2 => ap.b t h2 h1)];exact h
theorem Seq.heap : ∀ {js : List Nat} {s s' : DS}, Seq P G all s js s' → s'.heap = s.heap
 | [], s, s', h => by cases h; rfl
 | j :: js, s, s', ⟨d, _, h⟩ => by have := Seq.heap h; exact this
theorem Seq.env : ∀ {js : List Nat} {s s' : DS}, Seq P G all s js s' → ∀ t, (∀ j ∈ js, dstAt all j ≠ some t) → s'.env t = s.env t
 | [], s, s', h, t, _ => by cases h; rfl
 | j :: js, s, s', ⟨d, _, h⟩, t, ht => by
  rw [Seq.env h t fun i hi => ht i (by simp [hi])];exact updO_ne (ht j (by simp))
theorem Seq.shift {k : Option Nat} {v : DVal} {h : DHeap} : ∀ {js : List Nat} {s s' : DS}, Seq P G all s js s' →
  (∀ j ∈ js, ∀ t, k = some t → t ∉ looks all j) → (∀ j ∈ js, ∀ t, dstAt all j = some t → k ≠ some t) →
  (∀ A j B, js = A ++ j :: B → ∀ o a, operAt all j = some o → lookOp o.op = some a → (∀ t, a = .tmp t → ∀ m ∈ j :: B, dstAt all m ≠ some t) ∧ keepAt s.heap h (dev G s'.env a)) →
  Seq P G all ⟨updO s.env k v, h⟩ js ⟨updO s'.env k v, h⟩
 | [], s, s', hs, _, _, _ => by cases hs; rfl
 | j :: js, s, s', ⟨d, hd, hs⟩, h1, h2, h3 => by
  refine ⟨d, hd.agree (fun t ht => updO_ne fun e => h1 j (by simp) t e ht) (fun o a ho ha => ?_), ?_⟩
  ·obtain ⟨g1, g2⟩ := h3 [] j js rfl o a ho ha;have : dev G s'.env a = dev G s.env a := by
    cases a with
    | tmp t =>
     have := Seq.env hs t fun i hi => g1 t rfl i (by simp [hi]);simp only [dev];rw [this];exact updO_ne (g1 t rfl j (by simp))
    | _ => rfl
   rw [← this]; exact g2
  ·have hs' := Seq.shift (k := k) (v := v) (h := h) hs (fun i hi => h1 i (by simp [hi])) (fun i hi => h2 i (by simp [hi])) (fun A i B e => h3 (j :: A) i B (by rw [e]; rfl));show Seq P G all ⟨updO (updO s.env k v) (dstAt all j) d, h⟩ js _;rw [updO_comm fun t e1 e2 => h2 j (by simp) t e2 e1];exact hs'
end
end Go.Dl

-- THE DATA LEVEL, PART 2: what a plan ends with, every order that is drawn ends with.
namespace Go.Dl
open Go
section
variable {P : Program} {G : Nat → DVal} {N : Fr} {all : List Oper} {Q : DExit → DS → Prop} {s0 : DS} {w0 : World}
theorem wpOp_sound {F : Fence} {n : Nat} (hF : FOk F) {k : Nat} {o : Oper} {c : DS} {a : Act} {w : World} {K : DK} (hall : all.all (operOk N) = true) (hk : operAt all k = some o) (hS : Sim G N c a w) (hE : Ext s0.heap w0 c.heap w)
  (h : dAt P G all K Q c (some o)) : wpOpIn F n P all.toArray (ExitS G N Q s0 w0) k (NextS G N K c w) a w := by
 have hko : all.toArray[k]? = some o := by rw [operAt_eq] at hk; simpa using hk
 have hok : operOk N o = true := by
  rw [operAt_eq] at hk;exact List.all_eq_true.1 hall o (List.mem_of_getElem? hk)
 unfold wpOpIn;simp only [hko];have skip : dput o.dst dundef K c → NextS G N K c w (a.put o.dst undef) w := fun hp =>
  ⟨⟨updO c.env o.dst dundef, c.heap⟩, hp, hS.put (operOk_dst hok) (rel_dundef w c.heap), Ext.refl _ _⟩
 simp only [dAt] at h;unfold dOne at h;cases hg : o.guard with
 | none =>
  rw [hg] at h;rw [if_pos (by simp [Region.wanted, hg])];exact dop_soundIn hF hok hS hE h
 | some jb =>
  obtain ⟨j, b⟩ := jb;rw [hg] at h;simp only at h;cases hj : dstOf all j with
  | none => rw [hj] at h; exact h.elim
  | some g =>
   rw [hj] at h;simp only [dGuardKO] at h;have hjo : (all[j]?).bind (·.dst) = some g := by rw [← dstOf_eq]; exact hj
   obtain ⟨oj, hoj, hdj⟩ := Option.bind_eq_some_iff.1 hjo;have hmem : oj ∈ all := List.mem_of_getElem? hoj;have hgN : g < N := by
    have := List.all_eq_true.1 hall oj hmem;have := operOk_dst this;rw [hdj] at this;simpa [dstOk] using this
   have hrel := hS.tmps g hgN;have hy : ∀ v, c.env g = .bool v → yielded all.toArray a.tmps j = some v := by
    intro v hv;rw [hv] at hrel;simp only [Rel] at hrel;have h1 : a.tmps[g]? = some (.bool v) := by
     rw [Array.getD_eq_getD_getElem?] at hrel;cases hq : a.tmps[g]? with
     | none =>
      have := hS.size;rw [Array.getElem?_eq_none_iff] at hq;omega
     | some z => rw [hq] at hrel; simpa using hrel
    simp [yielded, hoj, hdj, h1]
   by_cases hun : c.env g = .tuple []
   ·rw [hun] at h hrel;simp only [Rel, RelL] at hrel;obtain ⟨xs, hxs, hx0⟩ := hrel;have hyn : yielded all.toArray a.tmps j = none := by
     have h2 : ∀ z, a.tmps[g]? = some z → z = .tuple xs := fun z hz => by
      rw [Array.getD_eq_getD_getElem?, hz] at hxs; simpa using hxs
     unfold yielded;simp only [List.getElem?_toArray, hjo, Option.bind_some];cases hz : a.tmps[g]? with
     | none => rfl
     | some z => rw [h2 z hz]
    rw [if_neg (by simp [Region.wanted, hg, hyn])];exact ⟨fun f _ => hF.fn f, skip (by cases b <;> exact h)⟩
   cases hv : c.env g <;> rw [hv] at h <;> (try (cases b <;> exact h.elim))
   case tuple vs => cases vs with
    | nil => exact absurd hv hun
    | cons _ _ => cases b <;> exact h.elim
   rename_i v
   have hy' := hy v hv;cases b <;> cases v <;> simp only [dGuardK] at h
   ·rw [if_pos (by simp [Region.wanted, hg, hy'])]; exact dop_soundIn hF hok hS hE h
   ·rw [if_neg (by simp [Region.wanted, hg, hy'])]; exact ⟨fun f _ => hF.fn f, skip h⟩
   ·rw [if_neg (by simp [Region.wanted, hg, hy'])]; exact ⟨fun f _ => hF.fn f, skip h⟩
   ·rw [if_pos (by simp [Region.wanted, hg, hy'])]; exact dop_soundIn hF hok hS hE h
structure Inv (P : Program) (G : Nat → DVal) (N : Fr) (all : List Oper) (Q : DExit → DS → Prop) (s0 : DS) (w0 : World)
  (T js : List Nat) (p : Plan) (c s : DS) (a : Act) (w : World) (listed : Array Bool) : Prop where
 sim : Sim G N c a w
 ext : Ext s0.heap w0 c.heap w
 seq : Seq P G all c js s
 plan : dplan P G all Q p s
 ok : planOk all p T = true
 cov : cover all T p = true
 size : listed.size = all.length
 iff : ∀ i, i < all.length → (listed.getD i true = true ↔ i ∈ T ∧ i ∉ js)
 sub : ∀ i ∈ js, i ∈ T ∧ i < all.length
 tlt : ∀ i ∈ T, i < all.length
 nodup : js.Nodup
 eager : ∀ j ∈ js, eagerB all j = true
 pair : js.Pairwise fun j k => (depB all k j = true ∨ apartB all j k = true) ∧ depB all j k = false
 out : ∀ j ∈ js, ∀ k, k < all.length → k ∉ T → depB all k j = true ∨ apartB all j k = true
 deps : ∀ j ∈ js, ∀ e, depB all j e = true → e ∈ T ∧ e ≠ j
 clo : ∀ k, k < all.length → listed.getD k true = true → ∀ e, depB all k e = true → listed.getD e false = true
theorem operAt_lt {i : Nat} (h : i < all.length) : ∃ o, operAt all i = some o := by
 rw [operAt_eq]; exact ⟨all[i], by simp [h]⟩
theorem depsL_spec {k e : Nat} (h : e ∈ depsL all k) : depB all k e = true := by
 unfold depsL at h;unfold depB;split at h
 ·rename_i o ho
  simp only [List.mem_map, List.mem_filter, Array.mem_toList_iff] at h;obtain ⟨x, ⟨hx, hb⟩, rfl⟩ := h;exact Array.any_eq_true'.2 ⟨x, hx, by simp [hb]⟩
 ·cases h
theorem ancDown_spec {listed : Array Bool} {i : Nat} (hs : listed.size = all.length) (hi : ∀ e, depB all i e = true → listed.getD e false = true)
  (hc : ∀ k, k < all.length → listed.getD k true = true → ∀ e, depB all k e = true → listed.getD e false = true) : ∀ (n : Nat) (S : List Nat), (∀ m ∈ S, m = i ∨ listed.getD m false = true) → ∀ m ∈ ancDown all n S, m = i ∨ listed.getD m false = true
 | 0, S, h => h
 | k + 1, S, h => by
  rw [ancDown];refine ancDown_spec hs hi hc k _ ?_;split
  ·rename_i hk
   intro m hm;rcases List.mem_append.1 hm with hm | hm
   ·have hd := depsL_spec hm;rcases h k (List.contains_iff_mem.1 hk) with rfl | hl
    ·exact .inr (hi m hd)
    ·have hlt : k < listed.size := by
      rcases Nat.lt_or_ge k listed.size with h' | h'
      ·exact h'
      ·simp [Array.getElem?_eq_none h'] at hl
     refine .inr (hc k (by rw [← hs]; exact hlt) ?_ m hd);simpa [hlt] using hl
   ·exact h m hm
  ·exact h
theorem depsIn_spec {k : Nat} {T : List Nat} (hk : k < all.length) : depsIn all k T = true ↔ ∀ e, depB all k e = true → e ∈ T := by
 obtain ⟨o, ho⟩ := operAt_lt hk;unfold depsIn depB;rw [ho];simp only [Array.all_eq_true_iff_forall_mem, Bool.or_eq_true, Bool.not_eq_true', List.contains_iff_mem];constructor
 ·intro h e he;obtain ⟨x, hx, hb⟩ := Array.any_eq_true'.1 he;simp only [Bool.and_eq_true, beq_iff_eq] at hb;rcases h x hx with h1 | h1
  ·rw [hb.1] at h1; cases h1
  ·rw [← hb.2]; exact h1
 ·intro h x hx;by_cases hb : Region.binds .any x = true
  ·exact .inr (h x.on (Array.any_eq_true'.2 ⟨x, hx, by simp [hb]⟩))
  ·exact .inl (by simpa using hb)
theorem ready_spec {listed : Array Bool} {k : Nat} (hs : listed.size = all.length) : k ∈ Region.ready .any all.toArray listed ↔
  k < all.length ∧ listed.getD k true = false ∧ ∀ e, depB all k e = true → listed.getD e false = true := by
 rw [mem_ready];constructor
 ·rintro ⟨h0, o, ho, h⟩;have ho' : all[k]? = some o := by simpa using ho
  have hlt : k < all.length := (List.getElem?_eq_some_iff.1 ho').1;refine ⟨hlt, h0, fun e he => ?_⟩;unfold depB at he;rw [operAt_eq, ho'] at he;obtain ⟨x, hx, hb⟩ := Array.any_eq_true'.1 he;simp only [Bool.and_eq_true, beq_iff_eq] at hb;rw [← hb.2]; exact h x hx hb.1
 ·rintro ⟨hlt, h0, h⟩;refine ⟨h0, all[k], by simp [hlt], fun x hx hb => h x.on ?_⟩;unfold depB;rw [operAt_eq, List.getElem?_eq_getElem hlt];exact Array.any_eq_true'.2 ⟨x, hx, by simp [hb]⟩
theorem getD_false_true {listed : Array Bool} {e : Nat} (h : e < listed.size) : listed.getD e false = listed.getD e true := by
 simp [h]
theorem Inv.advance {T js : List Nat} {i : Nat} {p : Plan} {c s : DS} {a : Act} {w : World} {listed : Array Bool} (h : Inv P G N all Q s0 w0 T js (.take i p) c s a w listed) :
    ∃ s', Inv P G N all Q s0 w0 (i :: T) (js ++ [i]) p c s' a w listed := by
  have hok := h.ok
  simp only [planOk, Bool.and_eq_true, decide_eq_true_eq, Bool.not_eq_true', List.all_eq_true, List.mem_range, Bool.or_eq_true, List.contains_iff_mem, beq_iff_eq] at hok
  obtain ⟨⟨⟨⟨⟨⟨hi, hT⟩, he⟩, hd⟩, ha⟩, hc⟩, hp⟩ := hok
  have hT' : i ∉ T := by intro hm; rw [List.contains_iff_mem.2 hm] at hT; cases hT
  rw [depsIn_spec hi] at hd
  obtain ⟨o, ho⟩ := operAt_lt hi
  have hpl := h.plan
  simp only [dplan, ho] at hpl
  have heo : eagerOp o.op = true := by unfold eagerB at he; rw [ho] at he; exact he
  have hst : ∃ d, EVal P G all i s d ∧ dplan P G all Q p ⟨updO s.env (dstAt all i) d, s.heap⟩ := by
    have hdst : dstAt all i = o.dst := by simp [dstAt, ho]
    rw [hdst]
    rcases dAt_wanted.1 hpl with ⟨hw, hdop⟩ | ⟨hw, hput⟩
    · obtain ⟨d, hd1, hd2⟩ := eager_spec o.op heo hdop
      exact ⟨d, ⟨o, ho, heo, .inl ⟨hw, fun K Q hK => hd2 Q K s (fun _ _ => rfl) (fun _ _ => keepAt_refl) hK⟩⟩, hd1⟩
    · exact ⟨dundef, ⟨o, ho, heo, .inr ⟨hw, rfl⟩⟩, hput⟩
  obtain ⟨d, hev, hpl'⟩ := hst
  have seqApp : ∀ (js : List Nat) (c : DS), Seq P G all c js s → Seq P G all c (js ++ [i]) ⟨updO s.env (dstAt all i) d, s.heap⟩ := by
    intro js
    induction js with
    | nil => intro c hc; cases hc; exact ⟨d, hev, rfl⟩
    | cons j js ih => intro c hc; obtain ⟨d', h1, h2⟩ := hc; exact ⟨d', h1, ih _ h2⟩
  refine ⟨⟨updO s.env (dstAt all i) d, s.heap⟩, ?_⟩
  exact {
    sim := h.sim, ext := h.ext, seq := seqApp js c h.seq, plan := hpl', ok := hp, cov := hc, size := h.size
    iff := fun k hk => by
      rw [h.iff k hk]
      simp only [List.mem_cons, List.mem_append, List.not_mem_nil, or_false, not_or]
      constructor
      · rintro ⟨h1, h2⟩
        exact ⟨.inr h1, h2, fun e => hT' (e ▸ h1)⟩
      · rintro ⟨h1, h2, h3⟩
        exact ⟨h1.resolve_left h3, h2⟩
    sub := fun k hk => by
      simp only [List.mem_append, List.mem_cons, List.not_mem_nil, or_false] at hk ⊢
      rcases hk with hk | rfl
      · exact ⟨.inr (h.sub k hk).1, (h.sub k hk).2⟩
      · exact ⟨.inl rfl, hi⟩
    tlt := fun k hk => by
      simp only [List.mem_cons] at hk
      rcases hk with rfl | hk
      · exact hi
      · exact h.tlt k hk
    nodup := by
      rw [List.nodup_append]
      refine ⟨h.nodup, by simp, ?_⟩
      intro x hx y hy e
      simp only [List.mem_cons, List.not_mem_nil, or_false] at hy
      subst hy; subst e
      exact hT' (h.sub x hx).1
    eager := fun k hk => by
      simp only [List.mem_append, List.mem_cons, List.not_mem_nil, or_false] at hk
      rcases hk with hk | rfl
      · exact h.eager k hk
      · exact he
    pair := by
      rw [List.pairwise_append]
      refine ⟨h.pair, by simp, ?_⟩
      intro j hj k hk
      simp only [List.mem_cons, List.not_mem_nil, or_false] at hk
      subst hk
      refine ⟨h.out j hj k hi hT', ?_⟩
      cases hdep : depB all j k with
      | false => rfl
      | true => exact (hT' (h.deps j hj k hdep).1).elim
    out := fun j hj k hk hkT => by
      simp only [List.mem_append, List.mem_cons, List.not_mem_nil, or_false, not_or] at hj hkT
      rcases hj with hj | rfl
      · exact h.out j hj k hk hkT.2
      · rcases ha k hk with ((h1 | h1) | h1) | h1
        · exact (hkT.2 h1).elim
        · exact (hkT.1 h1).elim
        · exact .inl h1
        · exact .inr h1
    deps := fun j hj e hde => by
      simp only [List.mem_append, List.mem_cons, List.not_mem_nil, or_false] at hj ⊢
      rcases hj with hj | rfl
      · exact ⟨.inr (h.deps j hj e hde).1, (h.deps j hj e hde).2⟩
      · have := hd e hde
        exact ⟨.inr this, fun hh => hT' (hh ▸ this)⟩
    clo := h.clo }
def notTake : Plan → Prop
 | .take _ _ => False
 | _ => True
theorem Inv.normal : ∀ {p : Plan} {T js : List Nat} {c s : DS} {a : Act} {w : World} {listed : Array Bool}, Inv P G N all Q s0 w0 T js p c s a w listed →
  ∃ T' js' p' s', Inv P G N all Q s0 w0 T' js' p' c s' a w listed ∧ notTake p'
 | .take i p, T, js, c, s, a, w, listed, h => by
  obtain ⟨s', h'⟩ := h.advance;exact h'.normal
 | .done, T, js, c, s, a, w, listed, h => ⟨T, js, _, s, h, trivial⟩
 | .go i ls p, T, js, c, s, a, w, listed, h => ⟨T, js, _, s, h, trivial⟩
 | .alt p q, T, js, c, s, a, w, listed, h => ⟨T, js, _, s, h, trivial⟩
theorem plan_more : ∀ (p : Plan) (T : List Nat) (s : DS), planOk all p T = true → dplan P G all Q p s →
  ((∀ i, i < all.length → i ∈ T) ∧ Q .normal s) ∨ ∃ i, i < all.length ∧ i ∉ T ∧ ∀ e, depB all i e = true → e ∈ T
 | .done, T, s, hok, h => by
  simp only [planOk, List.all_eq_true, List.mem_range, List.contains_iff_mem] at hok;exact .inl ⟨hok, h⟩
 | .take i p, T, s, hok, h => by
  simp only [planOk, Bool.and_eq_true, decide_eq_true_eq, Bool.not_eq_true'] at hok;obtain ⟨⟨⟨⟨⟨⟨hi, hT⟩, he⟩, hd⟩, _⟩, _⟩, _⟩ := hok;exact .inr ⟨i, hi, (fun hm => by rw [List.contains_iff_mem.2 hm] at hT; cases hT), (depsIn_spec hi).1 hd⟩
 | .go i ls p, T, s, hok, h => by
  simp only [planOk, Bool.and_eq_true, decide_eq_true_eq, Bool.not_eq_true'] at hok;obtain ⟨⟨⟨⟨⟨hi, hT⟩, hd⟩, _⟩, _⟩, _⟩ := hok;exact .inr ⟨i, hi, (fun hm => by rw [List.contains_iff_mem.2 hm] at hT; cases hT), (depsIn_spec hi).1 hd⟩
 | .alt p q, T, s, hok, h => by
  simp only [planOk, Bool.and_eq_true] at hok;exact plan_more p T s hok.1 h.1
theorem plan_first : ∀ (p : Plan) (T : List Nat) (s : DS) (k : Nat), planOk all p T = true → dplan P G all Q p s → k ∈ firsts p →
  ∃ ls p', planOk all (.go k ls p') T = true ∧ dplan P G all Q (.go k ls p') s
 | .done, T, s, k, _, _, hk => by simp [firsts] at hk
 | .take i p, T, s, k, _, _, hk => by simp [firsts] at hk
 | .go i ls p, T, s, k, hok, h, hk => by
  simp only [firsts, List.mem_cons, List.not_mem_nil, or_false] at hk;subst hk;exact ⟨ls, p, hok, h⟩
 | .alt p q, T, s, k, hok, h, hk => by
  simp only [planOk, Bool.and_eq_true] at hok;simp only [firsts, List.mem_append] at hk;rcases hk with hk | hk
  ·exact plan_first p T s k hok.1 h.1 hk
  ·exact plan_first q T s k hok.2 h.2 hk
theorem cover_spec {p : Plan} {T : List Nat} (hc : cover all T p = true) (hok : planOk all p T = true) (hn : notTake p) {k : Nat} (hk : k < all.length) (hT : k ∉ T) (hd : ∀ e, depB all k e = true → e ∈ T) : k ∈ firsts p := by
 have gen : ((List.range all.length).all fun k => T.contains k || (firsts p).contains k || !depsIn all k T) = true → k ∈ firsts p := by
  intro h;simp only [List.all_eq_true, List.mem_range, Bool.or_eq_true, List.contains_iff_mem, Bool.not_eq_true'] at h;rcases h k hk with (h1 | h1) | h1
  ·exact (hT h1).elim
  ·exact h1
  ·rw [(depsIn_spec hk).2 hd] at h1; cases h1
 cases p with
 | done =>
  simp only [planOk, List.all_eq_true, List.mem_range, List.contains_iff_mem] at hok;exact (hT (hok k hk)).elim
 | take i p => exact hn.elim
 | go i ls p => exact gen hc
 | alt p q => exact gen hc
theorem keepL_mem {s : DS} {H' : DHeap} : ∀ {ls : List Nat}, keepL G all s H' ls → ∀ l ∈ ls, keepO G s H' (lookAtO (operAt all l))
 | [], _, l, hl => by simp at hl
 | x :: ls, h, l, hl => by
  simp only [List.mem_cons] at hl;rcases hl with rfl | hl
  ·exact h.1
  ·exact keepL_mem h.2 l hl
theorem Inv.sound {F : Fence} {n : Nat} (hF : FOk F) (hall : all.all (operOk N) = true) (hQ : ∀ v env env' h, Q (.panic v) ⟨env, h⟩ → Q (.panic v) ⟨env', h⟩) : ∀ (fuel : Nat) (U T js : List Nat) (p : Plan) (c s : DS) (a : Act) (w : World) (listed : Array Bool),
    Inv P G N all Q s0 w0 T js p c s a w listed → U.length ≤ fuel → (∀ i, i < all.length → listed.getD i true = false → i ∈ U) →
    wpAnyIn F n P .any all.toArray (ExitS G N Q s0 w0) fuel listed a w := by
  intro fuel
  induction fuel with
  | zero =>
    intro U T js p c s a w listed h hU hUm
    have hnil : U = [] := List.eq_nil_of_length_eq_zero (Nat.le_zero.1 hU)
    subst hnil
    have hall1 : ∀ i, i < all.length → listed.getD i true = true := by
      intro i hi
      cases hl : listed.getD i true with
      | true => rfl
      | false => exact absurd (hUm i hi hl) (by simp)
    have hjs : js = [] := by
      cases js with
      | nil => rfl
      | cons j js =>
        have hs := h.sub j (by simp)
        exact absurd (by simp) ((h.iff j hs.2).1 (hall1 j hs.2)).2
    subst hjs
    have hsc := h.seq
    simp only [Seq] at hsc
    refine ⟨?_, ?_⟩
    · rw [List.eq_nil_iff_forall_not_mem]
      intro k hk
      rw [ready_spec h.size] at hk
      rw [hall1 k hk.1] at hk
      cases hk.2.1
    · rcases plan_more p T s h.ok h.plan with ⟨_, hq⟩ | ⟨i, hi, hiT, _⟩
      · subst hsc; exact ⟨.normal, s, hq, .normal, h.sim, h.ext⟩
      · exact absurd ((h.iff i hi).1 (hall1 i hi)).1 hiT
  | succ fuel ih =>
    intro U T js p c s a w listed h0 hU hUm
    obtain ⟨T, js, p, s, h, hnt⟩ := h0.normal
    have inList : ∀ e, listed.getD e false = true → e ∈ T ∧ e ∉ js := by
      intro e he
      have hlt : e < listed.size := by
        rcases Nat.lt_or_ge e listed.size with h' | h'
        · exact h'
        · simp [Array.getElem?_eq_none h'] at he
      have := he
      rw [getD_false_true hlt] at this
      exact (h.iff e (by rw [← h.size]; exact hlt)).1 this
    refine ⟨fun hr => ?_, fun k hk => ?_⟩
    · -- nothing may come up: all have
      have hno : ∀ k, k ∉ Region.ready .any all.toArray listed := by rw [hr]; simp
      have toL : ∀ e, e ∈ T → e ∉ js → e < all.length → listed.getD e false = true := by
        intro e h1 h2 h3
        rw [getD_false_true (by rw [h.size]; exact h3)]
        exact (h.iff e h3).2 ⟨h1, h2⟩
      have unl : ∀ i, i < all.length → ¬ (i ∈ T ∧ i ∉ js) → listed.getD i true = false := by
        intro i hi hn
        cases hl : listed.getD i true with
        | false => rfl
        | true => exact (hn ((h.iff i hi).1 hl)).elim
      have hjs : js = [] := by
        cases js with
        | nil => rfl
        | cons j js =>
          refine (hno j ((ready_spec h.size).2 ⟨(h.sub j (by simp)).2, unl j (h.sub j (by simp)).2 (fun hh => hh.2 (by simp)), fun e he => ?_⟩)).elim
          obtain ⟨g1, g2⟩ := h.deps j (by simp) e he
          refine toL e g1 (fun hm => ?_) (h.tlt e g1)
          simp only [List.mem_cons] at hm
          rcases hm with hm | hm
          · exact g2 hm
          · have := ((List.pairwise_cons.1 h.pair).1 e hm).2
            rw [he] at this; cases this
      subst hjs
      have hsc := h.seq
      simp only [Seq] at hsc
      rcases plan_more p T s h.ok h.plan with ⟨_, hq⟩ | ⟨i, hi, hiT, hd⟩
      · subst hsc; exact ⟨.normal, s, hq, .normal, h.sim, h.ext⟩
      · exact (hno i ((ready_spec h.size).2 ⟨hi, unl i hi (fun hh => hiT hh.1), fun e he => toL e (hd e he) (by simp) (h.tlt e (hd e he))⟩)).elim
    · rw [ready_spec h.size] at hk
      obtain ⟨hkn, hun, hdep⟩ := hk
      obtain ⟨o, ho⟩ := operAt_lt hkn
      have hdepT : ∀ e, depB all k e = true → e ∈ T ∧ e ∉ js := fun e he => inList e (hdep e he)
      have hU' : k ∈ U := hUm k hkn hun
      have hUl : (U.erase k).length ≤ fuel := by
        rw [List.length_erase_of_mem hU']; omega
      have hset : ∀ i, i ≠ k → (listed.setIfInBounds k true).getD i true = listed.getD i true := fun i hi => getD_set_ne true (Ne.symm hi)
      have hsetk : (listed.setIfInBounds k true).getD k true = true := by
        have : k < listed.size := by rw [h.size]; exact hkn
        simp [this]
      have hup : ∀ e, listed.getD e false = true → (listed.setIfInBounds k true).getD e false = true := by
        intro e he
        have hlt : e < listed.size := by
          rcases Nat.lt_or_ge e listed.size with h' | h'
          · exact h'
          · simp [Array.getElem?_eq_none h'] at he
        by_cases hek : e = k
        · subst hek
          simp [hlt]
        · rw [getD_set_ne false (Ne.symm hek)]; exact he
      have hclo : ∀ i, i < all.length → (listed.setIfInBounds k true).getD i true = true → ∀ e, depB all i e = true → (listed.setIfInBounds k true).getD e false = true := by
        intro i hi hl e he
        by_cases hik : i = k
        · subst hik; exact hup e (hdep e he)
        · rw [hset i hik] at hl
          exact hup e (h.clo i hi hl e he)
      have hUm' : ∀ i, i < all.length → (listed.setIfInBounds k true).getD i true = false → i ∈ U.erase k := by
        intro i hi hl
        by_cases hik : i = k
        · subst hik; rw [hsetk] at hl; cases hl
        · rw [hset i hik] at hl
          exact (List.mem_erase_of_ne hik).2 (hUm i hi hl)
      by_cases hkj : k ∈ js
      · -- it was taken before
        obtain ⟨A, B, rfl⟩ := List.append_of_mem hkj
        have hpw := List.pairwise_append.1 h.pair
        have hnd := h.nodup
        rw [List.nodup_append] at hnd
        have apA : ∀ j ∈ A, Apart all j k := by
          intro j hj
          have hjlt := (h.sub j (by simp [hj])).2
          obtain ⟨x, hx⟩ := operAt_lt hjlt
          rcases (hpw.2.2 j hj k (by simp)).1 with hd | ha
          · exact absurd (by simp [hj]) (hdepT j hd).2
          · exact apartB_spec hx ho ha
        obtain ⟨d, hev, hrest⟩ := Seq.front apA h.seq
        obtain ⟨o', ho', heo, hev⟩ := hev
        rw [ho] at ho'; cases ho'
        have hdst : dstAt all k = o.dst := by simp [dstAt, ho]
        have hat : dAt P G all (fun s1 => s1 = ⟨updO c.env o.dst d, c.heap⟩) Q c (some o) := by
          rw [dAt_wanted]
          rcases hev with ⟨hw, hv⟩ | ⟨hw, rfl⟩
          · exact .inl ⟨hw, hv _ _ rfl⟩
          · exact .inr ⟨hw, rfl⟩
        refine wpOpIn_mono ?_ (wpOp_sound hF hall ho h.sim h.ext hat)
        rintro a' w' ⟨s1, rfl, hS', hE'⟩
        refine ih (U.erase k) T (A ++ B) p ⟨updO c.env o.dst d, c.heap⟩ s a' w' _ ?_ hUl hUm'
        have memE : ∀ i, i ∈ A ++ B → i ∈ A ++ k :: B := fun i hi => by
          simp only [List.mem_append, List.mem_cons] at hi ⊢
          rcases hi with hi | hi
          · exact .inl hi
          · exact .inr (.inr hi)
        have subl : (A ++ B).Sublist (A ++ k :: B) := List.Sublist.append (List.Sublist.refl A) (List.sublist_cons_self k B)
        have kno : k ∉ A ++ B := by
          intro hm
          have := h.nodup
          rw [(List.perm_middle (a := k) (l₁ := A) (l₂ := B)).nodup_iff] at this
          exact (List.nodup_cons.1 this).1 hm
        exact {
          sim := hS', ext := h.ext.trans hE', seq := by rw [hdst] at hrest; exact hrest, plan := h.plan, ok := h.ok, cov := h.cov
          size := by simp [h.size]
          iff := fun i hi => by
            by_cases hik : i = k
            · subst hik
              rw [hsetk]
              exact ⟨fun _ => ⟨(h.sub i (by simp)).1, kno⟩, fun _ => rfl⟩
            · rw [hset i hik, h.iff i hi]
              simp only [List.mem_append, List.mem_cons, not_or]
              constructor
              · rintro ⟨g1, g2, g3⟩; exact ⟨g1, g2, g3.2⟩
              · rintro ⟨g1, g2, g3⟩; exact ⟨g1, g2, hik, g3⟩
          sub := fun i hi => h.sub i (memE i hi)
          tlt := h.tlt
          nodup := h.nodup.sublist subl
          eager := fun i hi => h.eager i (memE i hi)
          pair := h.pair.sublist subl
          out := fun i hi => h.out i (memE i hi)
          deps := fun i hi => h.deps i (memE i hi)
          clo := hclo }
      · -- it is the plan's next
        have hkT : k ∉ T := by
          intro hm
          have := (h.iff k hkn).2 ⟨hm, hkj⟩
          rw [hun] at this; cases this
        have hf := cover_spec h.cov h.ok hnt hkn hkT fun e he => (hdepT e he).1
        obtain ⟨ls, p', hok, hpl⟩ := plan_first p T s k h.ok h.plan hf
        simp only [planOk, Bool.and_eq_true, decide_eq_true_eq, Bool.not_eq_true'] at hok
        obtain ⟨⟨⟨⟨⟨_, _⟩, hd⟩, hlk⟩, hc'⟩, hp'⟩ := hok
        simp only [dplan, ho] at hpl
        have apJ : ∀ j ∈ js, Apart all j k := by
          intro j hj
          obtain ⟨x, hx⟩ := operAt_lt (h.sub j hj).2
          rcases h.out j hj k hkn hkT with hd | ha
          · exact absurd hj (hdepT j hd).2
          · exact apartB_spec hx ho ha
        have hdst : dstAt all k = o.dst := by simp [dstAt, ho]
        have hlooks : looks all k = o.looksAt all.toArray := by simp [looks, ho]
        have agree : ∀ t ∈ o.looksAt all.toArray, c.env t = s.env t := by
          intro t ht
          refine (Seq.env h.seq t fun j hj e => ?_).symm
          exact (apJ j hj).a t e (by rw [hlooks]; exact ht)
        have shift : ∀ d H', KeepK G all ls s (dplan P G all Q p') ⟨updO s.env o.dst d, H'⟩ →
            (∃ s1, dplan P G all Q p' s1 ∧ Seq P G all ⟨updO c.env o.dst d, H'⟩ js s1) := by
          intro d H' hK
          refine ⟨_, hK.2, Seq.shift h.seq (fun j hj t e => ?_) (fun j hj t e e2 => ?_) ?_⟩
          · exact (apJ j hj).c t (by rw [hdst]; exact e)
          · exact (apJ j hj).b t e (by rw [hdst]; exact e2)
          · intro A j B e oj a hoj hla
            have hjm : j ∈ js := by rw [e]; simp
            have hjT := (h.sub j hjm).1
            unfold looksOk at hlk
            rw [List.all_eq_true] at hlk
            have hl := hlk j hjT
            simp only [lookAtO, hoj, hla, Bool.or_eq_true, Bool.and_eq_true, List.contains_iff_mem, bne_iff_ne] at hl
            rcases hl with (hl | ⟨hl1, hl2⟩) | ⟨hl1, hl2⟩
            · exact absurd hjm (hdepT j hl).2
            · rcases ancDown_spec h.size hdep h.clo (k + 1) [k] (fun m hm => .inl (by simpa using hm)) j hl2 with hh | hh
              · exact absurd hh hl1
              · exact absurd hjm (inList j hh).2
            · refine ⟨fun t ht m hm hdm => ?_, ?_⟩
              · subst ht
                simp only [slotKept, List.all_eq_true, Bool.or_eq_true, bne_iff_ne] at hl2
                have hmj : m ∈ js := by rw [e]; exact List.mem_append_right _ hm
                rcases hl2 m (h.sub m hmj).1 with g | g
                · exact g hdm
                · simp only [List.mem_cons] at hm
                  rcases hm with rfl | hm
                  · exact (h.deps m hmj m g).2 rfl
                  · have hp := h.pair
                    rw [e, List.pairwise_append] at hp
                    have := (List.pairwise_cons.1 hp.2.1).1 m hm
                    rw [g] at this
                    cases this.2
              · have hkl := keepL_mem hK.1 j hl1
                simp only [lookAtO, hoj, hla, keepO] at hkl
                rw [← Seq.heap h.seq]
                exact hkl
        have hat : dAt P G all (fun c1 => ∃ s1, dplan P G all Q p' s1 ∧ Seq P G all c1 js s1) Q c (some o) := by
          rw [dAt_wanted] at hpl ⊢
          rw [looks_wanted agree]
          have hheap := Seq.heap h.seq
          rcases hpl with ⟨hw, hop⟩ | ⟨hw, hput⟩
          · refine .inl ⟨hw, dop_congr o.op (looks_dev (all := all) agree) hheap.symm (fun d H' hK => shift d H' hK) (fun v H' hq => hQ v _ _ H' hq) hop⟩
          · refine .inr ⟨hw, ?_⟩
            unfold dput at hput ⊢
            rw [← hheap]
            exact shift _ _ hput
        refine wpOpIn_mono ?_ (wpOp_sound hF hall ho h.sim h.ext hat)
        rintro a' w' ⟨c1, ⟨s1, hp1, hseq⟩, hS', hE'⟩
        refine ih (U.erase k) (k :: T) js p' c1 s1 a' w' _ ?_ hUl hUm'
        exact {
          sim := hS', ext := h.ext.trans hE', seq := hseq, plan := hp1, ok := hp', cov := hc'
          size := by simp [h.size]
          iff := fun i hi => by
            by_cases hik : i = k
            · subst hik
              rw [hsetk]
              exact ⟨fun _ => ⟨by simp, hkj⟩, fun _ => rfl⟩
            · rw [hset i hik, h.iff i hi]
              simp [hik]
          sub := fun i hi => ⟨by simp [(h.sub i hi).1], (h.sub i hi).2⟩
          tlt := fun i hi => by
            simp only [List.mem_cons] at hi
            rcases hi with rfl | hi
            · exact hkn
            · exact h.tlt i hi
          nodup := h.nodup
          eager := h.eager
          pair := h.pair
          out := fun i hi m hm hmT => h.out i hi m hm (fun hh => hmT (by simp [hh]))
          deps := fun i hi e he => ⟨by simp [(h.deps i hi e he).1], (h.deps i hi e he).2⟩
          clo := hclo }
theorem dwp_any {id : Nat} {ops : Array Oper} {s : DS} (hm : P.follows .mixedOrders = true) (p : Plan)
    (hp : (ops.toList.all (operOk N) && cover ops.toList [] p && planOk ops.toList p []) = true) (h : dplan P G ops.toList (QP Q) p s) : DWp P G N (.region id ops true) Q s := by
  intro F n B hF a w hS
  simp only [Bool.and_eq_true] at hp
  obtain ⟨⟨hall, hc⟩, hok⟩ := hp
  have hE : Ext s.heap w s.heap { w with drawn := w.drawn + 1 } := ⟨rfl, rfl, rfl, Nat.le_refl _, fun _ _ _ => rfl, fun _ h => .inl h, fun _ _ => rfl, fun _ _ _ => rfl⟩
  have hSH : SimHeap { w with drawn := w.drawn + 1 } s.heap := fun r o hr => (hS.heap r o hr).lasts hE.lasts
  have hS' : Sim G ⟨N.n, B⟩ s a { w with drawn := w.drawn + 1 } := hS.ext hE hSH
  have key := Inv.sound (n := n) hF (P := P) (G := G) (N := ⟨N.n, B⟩) (all := ops.toList) (Q := QP Q) (s0 := s) (w0 := w) hall
    (fun v env env' h hq env'' => hq env'') ops.toList.length (List.range ops.toList.length) [] [] p s s a { w with drawn := w.drawn + 1 } (Array.replicate ops.size false)
    { sim := hS', ext := hE, seq := rfl, plan := h, ok := hok, cov := hc, size := by simp
      iff := fun i hi => by
        have : i < ops.size := by simpa using hi
        simp [this]
      sub := by simp
      tlt := by simp
      nodup := by simp
      eager := by simp
      pair := by simp
      out := by simp
      deps := by simp
      clo := fun k hk hl => by
        have : k < ops.size := by simpa using hk
        simp [this] at hl } (by simp) (fun i hi _ => by simpa using hi)
  have e1 : ops.toList.toArray = ops := by simp
  have e2 : ops.toList.length = ops.size := by simp
  rw [e1, e2] at key
  refine wpIn_mono (wpIn_region_any hm key) ?_
  rintro e a' w' ⟨e', s', hq, hx, hS1, hE1⟩
  refine ⟨e', s', ?_, hx, hS1, hE1⟩
  cases hx with
  | normal => exact hq
  | panic d v hv => exact hq s'.env
  | exit => exact hq.elim
  | goto => exact hq.elim
  | ret => exact hq.elim
end
end Go.Dl

-- THE DATA LEVEL, PART 3: plans run by simp.
namespace Go.Dl
open Go
attribute [go_sem] operAt.eq_1 operAt.eq_2 operAt.eq_3 dGuardK.eq_1 dGuardK.eq_2 dGuardK.eq_3 dGuardK.eq_4 dGuardK.eq_5 dGuardK.eq_6 dGuardKO.eq_1 dOne.eq_1 dOne.eq_2 dAt.eq_1 keepAt.eq_1 keepAt.eq_2 keepO.eq_1 keepO.eq_2 lookAtO.eq_1 lookOp.eq_1 lookOp.eq_2 lookOp.eq_3 keepL.eq_1 keepL.eq_2 dplan.eq_1 dplan.eq_2 dplan.eq_3 dplan.eq_4 QP.eq_1 QP.eq_2
attribute [go_sem] KeepK
section
end
end Go.Dl

-- THE DATA LEVEL, PART 5: loops over iterators: a round, the statement.
namespace Go.Dl
open Go Go.RowKit
section
variable {P : Program} {G : Nat → DVal} {N : Nat} {w w' : World} {Q : DExit → DS → Prop}
theorem upd_none_self {α : Type} {f : Nat → Option α} {l : Nat} (h : f l = none) (x : Option α) : upd (upd f l x) l none = f := by
 funext i; simp only [upd]; split
 ·rename_i e; subst e; exact h.symm
 ·rfl
end
end Go.Dl

-- THE DATA LEVEL, PART 6: a heap in two parts; the contract of an iterator; the loop over it.
namespace Go.Dl
open Go Go.RowKit
def over (Hi X : DHeap) : DHeap := fun r => match X r with
 | some o => some o
 | none => Hi r
def Disj (Hi X : DHeap) : Prop := ∀ r, X r ≠ none → Hi r = none
def h0 : DHeap := fun _ => none
theorem over_h0 (Hi : DHeap) : over Hi h0 = Hi := rfl
theorem over_hi {Hi X : DHeap} {r : Nat} (h : X r = none) : over Hi X r = Hi r := by simp [over, h]
theorem over_x {Hi X : DHeap} {r : Nat} {o : DObj} (h : X r = some o) : over Hi X r = some o := by simp [over, h]
theorem upd_eq_none {H : DHeap} {r r' : Nat} {o : DObj} : upd H r (some o) r' = none ↔ r' ≠ r ∧ r ≠ r' ∧ H r' = none := by
 unfold upd; by_cases e : r' = r
 ·simp [e]
 ·simp [e, Ne.symm e, eq_comm]
theorem Disj.x {Hi X : DHeap} (h : Disj Hi X) {r : Nat} (hr : Hi r ≠ none) : X r = none := by
 cases e : X r with
 | none => rfl
 | some o => exact (hr (h r (by simp [e]))).elim
section
end
end Go.Dl

-- THE DATA LEVEL, PART 7: own memory seen as memory that lasts; calls that only look.
namespace Go.Dl
open Go Go.RowKit
mutual
/-- The value, with block r (its cells: cs) seen as memory that lasts. -/
def fz (r : Nat) (cs : List DVal) : DVal → DVal
 | .optr r' off => if r' = r then .vptr cs off else .optr r' off
 | .oslice sz r' off len lo => if r' = r then .vslice ((cs.drop off).take (len * sz)) len else .oslice sz r' off len lo
 | .func fn a c => .func fn (fzs r cs a) (fzs r cs c)
 | .iface t v => .iface t (fz r cs v)
 | .agg l => .agg (fzs r cs l)
 | .tuple l => .tuple (fzs r cs l)
 | .vptr l off => .vptr (fzs r cs l) off
 | .vslice l n => .vslice (fzs r cs l) n
 | d => d
def fzs (r : Nat) (cs : List DVal) : List DVal → List DVal
 | [] => []
 | d :: ds => fz r cs d :: fzs r cs ds
end
section
variable {P : Program} {G : Nat → DVal} {w : World} {H : DHeap}
theorem lasts_letGo (H : DHeap) (r : Nat) (w : World) : Lasts H w (upd H r none) w :=
 ⟨fun b i x hb hc => ⟨by simp only [upd]; split; rfl; exact hb, hc⟩, Nat.le_refl _, fun _ _ => rfl⟩
theorem own_cellsAt (hH : SimHeap w H) {r : Nat} {cs : List DVal} {e : TypeId} (hr : H r = some (.cells cs e)) : ∃ xs, RelL w (upd H r none) cs xs ∧ CellsAt w (upd H r none) r 0 xs := by
 obtain ⟨xs, hl, hh⟩ := hH.holds hr;exact ⟨xs, hl.lasts (lasts_letGo H r w), .inr ⟨by simp [upd], fun i x hx => by simpa using hh i x hx⟩⟩
theorem CellsAt.part {b off : Nat} {xs : List Value} (h : CellsAt w H b off xs) (m n : Nat) : CellsAt w H b (off + m) ((xs.drop m).take n) := by
 rcases h with rfl | ⟨h1, h2⟩
 ·exact .inl (by simp)
 ·refine .inr ⟨h1, fun i x hx => ?_⟩;have : xs[m + i]? = some x := by
   rw [List.getElem?_take] at hx;split at hx
   ·simpa using hx
   ·cases hx
  have := h2 _ x this
  rwa [← Nat.add_assoc] at this
mutual
theorem fz_rel (hH : SimHeap w H) {r : Nat} {cs : List DVal} {e : TypeId} (hr : H r = some (.cells cs e)) : ∀ (d : DVal) (v : Value), Rel w H d v → Rel w (upd H r none) (fz r cs d) v
 | .optr r' off, v, h => by
  simp only [fz]
  split
  ·rename_i e'; subst e'
   simp only [Rel] at h ⊢
   obtain ⟨xs, hl, hc⟩ := own_cellsAt hH hr
   exact ⟨r', 0, xs, by simpa using h, hc, hl⟩
  ·simpa [Rel] using h
 | .oslice sz r' off len lo, v, h => by
  simp only [fz]
  split
  ·rename_i e'; subst e'
   simp only [Rel] at h ⊢
   obtain ⟨o, cap, rfl, h1, h2, h3, h4⟩ := h
   obtain ⟨xs, hl, hc⟩ := own_cellsAt hH hr
   refine ⟨_, cap, rfl, h2, ?_⟩
   by_cases h0 : cap = 0
   ·have : len = 0 := by omega
    subst this; left; simp
   ·have ho : o = off := h3.resolve_left h0
    subst ho
    right
    refine ⟨r', o, (xs.drop o).take (len * sz), rfl, ?_, (hl.drop o).take _⟩
    have := hc.part o (len * sz)
    simpa using this
  ·exact Rel.lasts (lasts_letGo H r w) _ _ h
 | .func fn a c, v, h => by
  simp only [Rel, fz] at h ⊢
  obtain ⟨xs, ys, rfl, h1, h2⟩ := h
  exact ⟨xs, ys, rfl, fzs_rel hH hr _ _ h1, fzs_rel hH hr _ _ h2⟩
 | .iface t d, v, h => by
  simp only [Rel, fz] at h ⊢
  obtain ⟨x, rfl, h1⟩ := h
  exact ⟨x, rfl, fz_rel hH hr _ _ h1⟩
 | .agg l, v, h => by
  simp only [Rel, fz] at h ⊢
  obtain ⟨x, rfl, h1⟩ := h
  exact ⟨x, rfl, fzs_rel hH hr _ _ h1⟩
 | .tuple l, v, h => by
  simp only [Rel, fz] at h ⊢
  obtain ⟨x, rfl, h1⟩ := h
  exact ⟨x, rfl, fzs_rel hH hr _ _ h1⟩
 | .raw x, v, h => by simp only [fz]; exact Rel.lasts (lasts_letGo H r w) _ _ h
 | .bool x, v, h => by simp only [fz]; exact Rel.lasts (lasts_letGo H r w) _ _ h
 | .int x y, v, h => by simp only [fz]; exact Rel.lasts (lasts_letGo H r w) _ _ h
 | .str x, v, h => by simp only [fz]; exact Rel.lasts (lasts_letGo H r w) _ _ h
 | .nilPtr, v, h => by simp only [fz]; exact Rel.lasts (lasts_letGo H r w) _ _ h
 | .vptr l off, v, h => by
  simp only [Rel, fz] at h ⊢
  obtain ⟨b, o, xs, rfl, h1, h2⟩ := h
  exact ⟨b, o, xs, rfl, h1.lasts (lasts_letGo H r w), fzs_rel hH hr _ _ h2⟩
 | .nilSlice, v, h => by simp only [fz]; exact Rel.lasts (lasts_letGo H r w) _ _ h
 | .vslice l n, v, h => by
  simp only [Rel, fz] at h ⊢
  obtain ⟨a, cap, rfl, hle, h1⟩ := h
  refine ⟨a, cap, rfl, hle, ?_⟩
  rcases h1 with h1 | ⟨b, o, xs, rfl, h1, h2⟩
  ·subst h1; exact .inl rfl
  ·exact .inr ⟨b, o, xs, rfl, h1.lasts (lasts_letGo H r w), fzs_rel hH hr _ _ h2⟩
 | .nilMap, v, h => by simp only [fz]; exact Rel.lasts (lasts_letGo H r w) _ _ h
 | .omap x, v, h => by simp only [fz]; exact Rel.lasts (lasts_letGo H r w) _ _ h
 | .nilFunc, v, h => by simp only [fz]; exact Rel.lasts (lasts_letGo H r w) _ _ h
 | .nilIface, v, h => by simp only [fz]; exact Rel.lasts (lasts_letGo H r w) _ _ h
theorem fzs_rel (hH : SimHeap w H) {r : Nat} {cs : List DVal} {e : TypeId} (hr : H r = some (.cells cs e)) : ∀ (ds : List DVal) (vs : List Value), RelL w H ds vs → RelL w (upd H r none) (fzs r cs ds) vs
 | [], vs, h => by simpa [fzs, RelL] using h
 | d :: ds, vs, h => by
  simp only [fzs, RelL] at h ⊢
  obtain ⟨y, ys, rfl, h1, h2⟩ := h
  exact ⟨y, ys, rfl, fz_rel hH hr _ _ h1, fzs_rel hH hr _ _ h2⟩
end
def GhostE (H : DHeap) (v : DVal) (H' : DHeap) (v' : DVal) : Prop := ∀ w, SimHeap w H → SimHeap w H' ∧ (∀ b, H' b ≠ none → H b ≠ none) ∧ ∀ x, Rel w H v x → Rel w H' v' x
theorem GhostE.trans {H H' H'' : DHeap} {v v' v'' : DVal} (h : GhostE H v H' v') (k : GhostE H' v' H'' v'') : GhostE H v H'' v'' := fun w hw => by
 obtain ⟨h1, h2, h3⟩ := h w hw;obtain ⟨k1, k2, k3⟩ := k w h1;exact ⟨k1, fun b hb => h2 b (k2 b hb), fun x hx => k3 x (h3 x hx)⟩
theorem GhostE.fz {H : DHeap} {v : DVal} {r : Nat} {cs : List DVal} {e : TypeId} (hr : H r = some (.cells cs e)) : GhostE H v (upd H r none) (fz r cs v) := fun w hw =>
 ⟨hw.letGo r, fun b hb => by simp only [upd] at hb; split at hb <;> simp_all, fun x hx => fz_rel hw hr _ _ hx⟩
theorem GhostE.drop (H : DHeap) (v : DVal) (r : Nat) : GhostE H v (upd H r none) v := fun w hw =>
 ⟨hw.letGo r, fun b hb => by simp only [upd] at hb; split at hb <;> simp_all, fun x hx => Rel.lasts (lasts_letGo H r w) _ _ hx⟩
theorem DFin.ghost {R : DEnd → DHeap → Prop} {v v' : DVal} {H H' : DHeap} (g : GhostE H v H' v') (h : DFin R v' H') : DFin R v H := by
 obtain ⟨v2, H2, k, hR⟩ := h;exact ⟨v2, H2, g.trans k, hR⟩
theorem DFin.fz {R : DEnd → DHeap → Prop} {v : DVal} {H : DHeap} (r : Nat) {cs : List DVal} {e : TypeId} (hr : H r = some (.cells cs e)) (h : DFin R (fz r cs v) (upd H r none)) : DFin R v H := .ghost (.fz hr) h
theorem DFin.drop {R : DEnd → DHeap → Prop} {v : DVal} {H : DHeap} (r : Nat) (h : DFin R v (upd H r none)) : DFin R v H := .ghost (.drop H v r) h
theorem DCalls.ghost {f : FuncId} {args : List DVal} {H : DHeap} {R R' : DEnd → DHeap → Prop} (h : DCalls P G f args H R) (hr : ∀ e H', R e H' → ∃ v v' H'', e = .ret v ∧ GhostE H' v H'' v' ∧ R' (.ret v') H'') : DCalls P G f args H R' := by
 refine ⟨h.1, fun vs w hv hH hG => (h.2 vs w hv hH hG).mono fun e w' ⟨e', H', r, k1, k2, k3⟩ => ?_⟩;obtain ⟨v, v', H'', rfl, g, r'⟩ := hr _ _ r;obtain ⟨g1, g2, g3⟩ := g w' k2;cases k1 with
 | ret d x hx => exact ⟨.ret v', H'', r', .ret _ _ (g3 x hx), g1, k3.os, k3.tape, k3.output, k3.size, k3.block, fun b hb => k3.own b (g2 b hb), k3.keep, k3.fz⟩
theorem DCalls.pre {f : FuncId} {args args' : List DVal} {H H' : DHeap} {R : DEnd → DHeap → Prop} (g : GhostE H (.tuple args) H' (.tuple args')) (h : DCalls P G f args' H' R) : DCalls P G f args H R := by
 refine ⟨h.1, fun vs w hv hH hG => ?_⟩;obtain ⟨g1, g2, g3⟩ := g w hH;have hl : Lasts H w H' w := ⟨fun b i x hb hc => ⟨by
  cases e : H' b with
  | none => rfl
  | some o => exact absurd hb (g2 b (by simp [e])), hc⟩, Nat.le_refl _, fun _ _ => rfl⟩
 have hv' : RelL w H' args' vs := by
  have := g3 (.tuple vs.toArray) (by simp only [Rel]; exact ⟨_, rfl, hv⟩);simp only [Rel] at this;obtain ⟨xs, h1, h2⟩ := this;cases h1; exact h2
 refine (h.2 vs w hv' g1 (hG.lasts hl)).mono fun e w' ⟨e', H'', r, k1, k2, k3⟩ => ⟨e', H'', r, k1, k2, k3.os, k3.tape, k3.output, k3.size, fun b hb hn => k3.block b hb (by
  cases e : H' b with
  | none => rfl
  | some o => exact absurd hn (g2 b (by simp [e]))), fun b hb => ?_, k3.keep, fun a ha hn => k3.fz a ha (by
  cases e : H' a.block with
  | none => rfl
  | some o => exact absurd hn (g2 a.block (by simp [e])))⟩
 rcases k3.own b hb with k | k
 ·exact .inl (g2 b k)
 ·exact .inr k
theorem DCalls.fzArgs {f : FuncId} {args : List DVal} {H : DHeap} {R : DEnd → DHeap → Prop} (r : Nat) {cs : List DVal} {e : TypeId} (hr : H r = some (.cells cs e)) (h : DCalls P G f (fzs r cs args) (upd H r none) R) : DCalls P G f args H R :=
 .pre (by have := GhostE.fz (v := .tuple args) hr; simpa only [fz] using this) h
def plain : DVal → Bool
 | .bool _ | .int _ _ | .str _ | .nilPtr | .nilSlice | .nilMap | .nilFunc | .nilIface => true
 | .tuple l => plains l
 | .agg l => plains l
 | _ => false
where plains : List DVal → Bool
 | [] => true
 | d :: ds => plain d && plains ds
end
attribute [go_sem] fz.eq_1 fz.eq_2 fz.eq_3 fz.eq_4 fz.eq_5 fz.eq_6 fzs.eq_1 fzs.eq_2
end Go.Dl

-- THE DATA LEVEL, PART 8: loops over iterators, ready for use.
namespace Go.Dl
open Go Go.RowKit
attribute [go_sem] over_h0
theorem upd_upd {α : Type} (f : Nat → α) (r : Nat) (a b : α) : upd (upd f r a) r b = upd f r b := by
 funext i; simp only [upd]; split <;> rfl
theorem upd_swap {α : Type} {r1 r2 : Nat} (h : r1 ≠ r2) (f : Nat → α) (a b : α) : upd (upd f r2 b) r1 a = upd (upd f r1 a) r2 b := by
 funext i; simp only [upd]; by_cases e1 : i = r1 <;> by_cases e2 : i = r2 <;> simp_all
theorem splice_zero (xs ys : List DVal) : splice xs 0 ys = ys ++ xs.drop ys.length := by simp [splice]
theorem splice_succ (x : DVal) (xs ys : List DVal) (n : Nat) : splice (x :: xs) (n + 1) ys = x :: splice xs n ys := by
 simp [splice, Nat.add_right_comm]
attribute [go_sem] upd_upd splice_zero splice_succ
theorem DCalls.fzA {P : Program} {G : Nat → DVal} {f : FuncId} {args : List DVal} {H : DHeap} {R : DEnd → DHeap → Prop} (r : Nat) {cs : List DVal} {e : TypeId} (hr : H r = none) (h : DCalls P G f (fzs r cs args) H R) : DCalls P G f args (upd H r (some (.cells cs e))) R :=
 DCalls.fzArgs r (upd_same _ _ _) (by rw [upd_none_self hr]; exact h)
theorem DFin.fzA {R : DEnd → DHeap → Prop} {v : DVal} {H : DHeap} (r : Nat) {cs : List DVal} {e : TypeId} (hr : H r = none) (h : DFin R (Dl.fz r cs v) H) : DFin R v (upd H r (some (.cells cs e))) :=
 DFin.fz r (upd_same _ _ _) (by rw [upd_none_self hr]; exact h)
theorem DFin.dropA {R : DEnd → DHeap → Prop} {v : DVal} {H : DHeap} (r : Nat) {o : Option DObj} (hr : H r = none) (h : DFin R v H) : DFin R v (upd H r o) :=
 DFin.drop r (by rw [upd_none_self hr]; exact h)
section
variable {P : Program} {G : Nat → DVal} {N : Nat} {Q : DExit → DS → Prop}
theorem dwp_draws {id : Nat} {ops : List Oper} {s : DS} (hm : P.follows .mixedOrders = true) (p : Plan) (hp : (ops.all (operOk N) && cover ops [] p && planOk ops p []) = true) (h : dplan P G ops (QP Q) p s) : dwp P G N (.region id ops.toArray true) Q s :=
 dwp_any (N := ⟨N, ⟨0, [], false⟩⟩) hm p (by simpa using hp) (by simpa using h)
end
end Go.Dl

-- THE DATA LEVEL, PART 9: slices that are built up; plain lists seen as slices.
namespace Go.Dl
open Go Go.RowKit
abbrev DRet (v : DVal) (H : DHeap) : DEnd → DHeap → Prop := fun e H' => e = .ret v ∧ H' = H
def OwnA (H : DHeap) (e : TypeId) (size n : Nat) (cs : List DVal) (v : DVal) (H' : DHeap) : Prop :=
 (n = 0 ∧ cs = [] ∧ v = .nilSlice ∧ H' = H) ∨ ∃ r, H r = none ∧ cs.length = n * size ∧ v = .oslice size r 0 n n ∧ H' = upd H r (some (.cells cs e))
section
variable {P : Program} {G : Nat → DVal} {Q : DExit → DS → Prop}
theorem upd_self {α : Type} {f : Nat → α} {r : Nat} {x : α} (h : f r = x) : upd f r x = f := by
 funext i; simp only [upd]; split
 ·rename_i e; rw [e, h]
 ·rfl
theorem dAppendO_in {e : TypeId} {size bytes r off len lo n : Nat} {news : List DVal} {dst : Option Nat} {K : DK} {s : DS} {cs : List DVal} (h : len + n ≤ lo) :
  dAppendO e size bytes r off len lo n news dst K s (some (.cells cs e)) = (off + (len + n) * size ≤ cs.length ∧
    K ⟨updO s.env dst (.oslice size r off (len + n) lo), upd s.heap r (some (.cells (splice cs (off + len * size) news) e))⟩) := by
 simp only [dAppendO, true_and, eq_iff_iff];exact ⟨fun k => k.1 h, fun k => ⟨fun _ => k, fun hn => (hn h).elim⟩⟩
theorem dAppendO_out {e : TypeId} {size bytes r len lo n : Nat} {news : List DVal} {dst : Option Nat} {K : DK} {s : DS} {cs : List DVal} (hle : len ≤ lo) (h : lo < len + n) :
  dAppendO e size bytes r 0 len lo n news dst K s (some (.cells cs e)) = (len * size ≤ cs.length ∧ (len + n) * bytes ≤ 35184372088832 ∧ ∀ r', upd s.heap r none r' = none →
    K ⟨updO s.env dst (.oslice size r' 0 (len + n) (len + n)), upd (upd s.heap r none) r' (some (.cells (cs.take (len * size) ++ news) e))⟩) := by
 simp only [dAppendO, true_and, eq_iff_iff, hle, true_or, if_true];have hn : ¬ len + n ≤ lo := by omega
 refine ⟨fun k => ?_, fun k => ⟨fun hh => (hn hh).elim, fun _ => ?_⟩⟩
 ·obtain ⟨k1, k2, k3⟩ := k.2 hn;refine ⟨by omega, k2, fun r' hr => ?_⟩;have := k3 r' [] hr (fun _ => rfl);simpa using this
 ·obtain ⟨k1, k2, k3⟩ := k;refine ⟨by omega, k2, fun r' pre hr hp => ?_⟩;have hpre := hp trivial;subst hpre;have := k3 r' hr;simpa using this
theorem GhostE.slice {H : DHeap} {e : TypeId} {size n lo : Nat} {cs rest : List DVal} {r : Nat} (hr : H r = none) (hl : cs.length = n * size) : GhostE (upd H r (some (.cells (cs ++ rest) e))) (.oslice size r 0 n lo) H (.vslice cs n) := by
 have := GhostE.fz (v := .oslice size r 0 n lo) (upd_same H r (some (.cells (cs ++ rest) e)));rw [upd_none_self hr] at this;simp only [Dl.fz, if_pos, List.drop_zero] at this;rw [ List.take_append_of_le_length (by omega), List.take_of_length_le (by omega)] at this;exact this
theorem OwnA.ghost {H H0 : DHeap} {e : TypeId} {size n : Nat} {cs : List DVal} {v : DVal} (hv : OwnA H e size n cs v H0) : GhostE H0 v H (.vslice cs n) := by
 rcases hv with ⟨rfl, rfl, rfl, rfl⟩ | ⟨r, hr, hl, rfl, rfl⟩
 ·intro w hw;refine ⟨hw, fun _ h => h, fun x hx => ?_⟩;simp only [Rel] at hx ⊢
  exact ⟨none, 0, hx, Nat.le_refl _, .inl (by simp)⟩
 ·have := GhostE.fz (v := .oslice size r 0 n n) (upd_same H r (some (.cells cs e)));rw [upd_none_self hr] at this;simp only [fz, if_pos, List.drop_zero] at this;rw [List.take_of_length_le (by omega)] at this;exact this
end
def DLe (d d' : DVal) : Prop := ∀ (w : World) (H : DHeap) (x : Value), Rel w H d x → Rel w H d' x
def DLes (ds ds' : List DVal) : Prop := ∀ (w : World) (H : DHeap) (x : List Value), RelL w H ds x → RelL w H ds' x
theorem DLe.refl (d : DVal) : DLe d d := fun _ _ _ h => h
theorem DLes.nil : DLes [] [] := fun _ _ _ h => h
theorem DLes.refl (ds : List DVal) : DLes ds ds := fun _ _ _ h => h
theorem DLes.cons {d d' : DVal} {ds ds' : List DVal} (h : DLe d d') (k : DLes ds ds') : DLes (d :: ds) (d' :: ds') := fun w H x hx => by
 simp only [RelL] at hx ⊢
 obtain ⟨y, ys, rfl, h1, h2⟩ := hx;exact ⟨y, ys, rfl, h _ _ _ h1, k _ _ _ h2⟩
theorem DLe.nil : DLe .nilSlice (.vslice [] 0) := fun w H x hx => by
 simp only [Rel] at hx ⊢
 exact ⟨none, 0, hx, Nat.le_refl _, .inl (by simp)⟩
theorem DLe.tuple {cs cs' : List DVal} (h : DLes cs cs') : DLe (.tuple cs) (.tuple cs') := fun w H x hx => by
 simp only [Rel] at hx ⊢
 obtain ⟨xs, rfl, h1⟩ := hx;exact ⟨xs, rfl, h _ _ _ h1⟩
theorem DLe.agg {cs cs' : List DVal} (h : DLes cs cs') : DLe (.agg cs) (.agg cs') := fun w H x hx => by
 simp only [Rel] at hx ⊢
 obtain ⟨xs, rfl, h1⟩ := hx;exact ⟨xs, rfl, h _ _ _ h1⟩
theorem sub_none {H H' : DHeap} (h : ∀ r o, H' r = some o → H r = some o) {b : Nat} (hb : H b = none) : H' b = none := by
 cases e : H' b with
 | none => rfl
 | some o => rw [h b o e] at hb; cases hb
theorem lasts_sub {H H' : DHeap} (h : ∀ r o, H' r = some o → H r = some o) (w : World) : Lasts H w H' w :=
 ⟨fun b i x hb hc => ⟨sub_none h hb, hc⟩, Nat.le_refl _, fun _ _ => rfl⟩
theorem GhostE.sub {H H' : DHeap} (h : ∀ r o, H' r = some o → H r = some o) (v : DVal) : GhostE H v H' v := fun w hw =>
 ⟨fun r o ho => (hw r o (h r o ho)).lasts (lasts_sub h w), fun b hb e => hb (sub_none h e), fun x hx => Rel.lasts (lasts_sub h w) _ _ hx⟩
theorem DFin.sub {R : DEnd → DHeap → Prop} {v : DVal} {H H' : DHeap} (h : ∀ r o, H' r = some o → H r = some o) (k : DFin R v H') : DFin R v H := .ghost (.sub h v) k
theorem none_ne {α : Type} {H : Nat → Option α} {a b : Nat} {o : α} (ha : H a = none) (hb : H b = some o) : b ≠ a := fun e => by rw [e, ha] at hb; cases hb
theorem fzs_append (r : Nat) (cs : List DVal) (l m : List DVal) : fzs r cs (l ++ m) = fzs r cs l ++ fzs r cs m := by
 induction l with
 | nil => simp [fzs]
 | cons d l ih => simp [fzs, ih]
theorem DCalls.leArgs {P : Program} {G : Nat → DVal} {f : FuncId} {args args' : List DVal} {H : DHeap} {R : DEnd → DHeap → Prop} (g : DLes args args') (h : DCalls P G f args' H R) : DCalls P G f args H R :=
 .pre (fun w hw => ⟨hw, fun _ h => h, fun x hx => DLe.tuple g _ _ _ hx⟩) h
theorem optAll_some {α : Type} (p : α → Bool) (x : α) : Option.all p (some x) = p x := rfl
attribute [go_sem] dAppendO_in dAppendO_out optAll_some
end Go.Dl

-- THE DATA LEVEL: the lemmas that the long simp call (simp (disch := omega) only [go_sem] in fill.py) takes besides the equations.
namespace Go.Dl
open Go
attribute [go_sem] Int.toNat_natCast Int.sub_zero Int.zero_add Int.add_zero Nat.add_sub_cancel wrap64_id List.length_cons List.length_nil List.all_cons List.all_nil Bool.and_true Bool.true_and Bool.or_false Bool.false_or
attribute [go_sem] List.take_succ_cons List.take_zero List.drop_succ_cons List.drop_zero decide_true decide_false Nat.mul_one Nat.one_mul Nat.zero_add Nat.add_zero Nat.mul_zero Nat.zero_mul Bool.not_true Bool.not_false
attribute [go_sem] Option.map_some Option.map_none Nat.le_refl Nat.zero_lt_succ ne_eq not_true_eq_false not_false_eq_true Option.isSome_some and_of dec_true dec_false true_imp_iff false_imp_iff beq_self_eq_true forall_const List.length_map
end Go.Dl
