/-
  THE DATA LEVEL, PART Z: an operation hangs on its operands alone.
-/
import Derived.Test.YtimnmempnhjbfaaDy
set_option linter.unusedSimpArgs false
set_option linter.unusedVariables false
namespace Go.Dl
open Go

section
variable {P : Program} {G : Nat → DVal}

theorem eager_spec {dst : Option Nat} {K : DK} {Q : DExit → DS → Prop} {s : DS} (op : Op) (he : eagerOp op = true) (h : dop P G dst K Q s op) :
    ∃ d, dput dst d K s ∧ ∀ Q' K' s', (∀ x ∈ op.operands, dev G s'.env x = dev G s.env x) → LookKeep G s s' op → dput dst d K' s' → dop P G dst K' Q' s' op := by
  have lift : ∀ {F : DK → DS → Prop}, EVF dst F → F K s → (∀ K' s', (∀ x ∈ op.operands, dev G s'.env x = dev G s.env x) → ∀ Q', F K' s' → dop P G dst K' Q' s' op) →
      ∃ d, dput dst d K s ∧ ∀ Q' K' s', (∀ x ∈ op.operands, dev G s'.env x = dev G s.env x) → LookKeep G s s' op → dput dst d K' s' → dop P G dst K' Q' s' op := by
    intro F hF hf hT
    obtain ⟨d, h1, h2⟩ := hF K s hf
    exact ⟨d, h1, fun Q' K' s' ha _ h' => hT K' s' ha Q' (h2 K' s' h')⟩
  cases op <;> simp only [eagerOp] at he <;> try (cases he; done)
  case move x => exact lift (evf_put _ _) h fun K' s' ha Q' h' => by simp only [dop]; rw [ha x (by simp [Op.operands])]; exact h'
  case assign x => exact lift (evf_put _ _) h fun K' s' ha Q' h' => by simp only [dop]; rw [ha x (by simp [Op.operands])]; exact h'
  case pick c a b => exact lift (ev_pick _ _ _ _) h fun K' s' ha Q' h' => by simp only [dop]; rw [ha c (by simp [Op.operands]), ha a (by simp [Op.operands]), ha b (by simp [Op.operands])]; exact h'
  case build t ps =>
    exact lift (ev_build _ _ _ _ _ _) h fun K' s' ha Q' h' => by
      simp only [dop]; rw [dparts_congr (env := s.env) (fun x hx => ha x (by simpa [Op.operands] using hx))]; exact h'
  case load t a =>
    obtain ⟨d, h1, h2⟩ := ev_load _ _ _ _ K s h
    exact ⟨d, h1, fun Q' K' s' ha hk h' => by simp only [dop]; rw [ha a (by simp [Op.operands])]; exact h2 K' s' (hk a rfl) h'⟩
  case nilCheck x => exact lift (ev_nilCheck _ _) h fun K' s' ha Q' h' => by simp only [dop]; rw [ha x (by simp [Op.operands])]; exact h'
  case binOp op t x y _ =>
    have hn : isNilS y = false := by simpa using he
    simp only [dop, hn, dBinX_false] at h
    exact lift (ev_bin _ _ _ _ _ _ _) h fun K' s' ha Q' h' => by simp only [dop, hn, dBinX_false]; rw [ha x (by simp [Op.operands]), ha y (by simp [Op.operands])]; exact h'
  case unOp op t x => exact lift (ev_un _ _ _) h fun K' s' ha Q' h' => by simp only [dop]; rw [ha x (by simp [Op.operands])]; exact h'
  case convert a t x => exact lift (ev_convert _ _ _ _) h fun K' s' ha Q' h' => by simp only [dop]; rw [ha x (by simp [Op.operands])]; exact h'
  case makeInterface t x => exact lift (ev_makeIface _ _ _ _) h fun K' s' ha Q' h' => by simp only [dop]; rw [ha x (by simp [Op.operands])]; exact h'
  case makeFunc fn fs cs =>
    exact lift (evf_put _ _) h fun K' s' ha Q' h' => by
      simp only [dop]; rw [devs_congr (env := s.env) (xs := fs.toList) (fun x hx => ha x (by simp at hx; simp [Op.operands, hx])), devs_congr (env := s.env) (xs := cs.toList) (fun x hx => ha x (by simp at hx; simp [Op.operands, hx]))]; exact h'
  case slice t x lo hi mx =>
    obtain ⟨d, h1, h2⟩ := ev_slice _ _ _ _ _ _ _ K s h
    exact ⟨d, h1, fun Q' K' s' ha hk h' => by
      simp only [dop]
      rw [ha x (by simp [Op.operands]), devO_congr (x := lo) (env := s.env) (fun y hy => ha y (by simp at hy; simp [Op.operands, hy])), devO_congr (x := hi) (env := s.env) (fun y hy => ha y (by simp at hy; simp [Op.operands, hy])), devO_congr (x := mx) (env := s.env) (fun y hy => ha y (by simp at hy; simp [Op.operands, hy]))]
      exact h2 K' s' (hk x rfl) h'⟩
  case fieldAddr t x f => exact lift (ev_fieldAddr _ _ _ _ _) h fun K' s' ha Q' h' => by simp only [dop]; rw [ha x (by simp [Op.operands])]; exact h'
  case field t x f => exact lift (ev_field _ _ _ _ _) h fun K' s' ha Q' h' => by simp only [dop]; rw [ha x (by simp [Op.operands])]; exact h'
  case indexAddr t x i => exact lift (ev_indexAddr _ _ _ _ _) h fun K' s' ha Q' h' => by simp only [dop]; rw [ha x (by simp [Op.operands]), ha i (by simp [Op.operands])]; exact h'
  case index t x i => exact lift (ev_index _ _ _ _ _) h fun K' s' ha Q' h' => by simp only [dop]; rw [ha x (by simp [Op.operands]), ha i (by simp [Op.operands])]; exact h'
  case typeAssert x t u ok => exact lift (ev_typeAssert _ _ _ _ _ _) h fun K' s' ha Q' h' => by simp only [dop]; rw [ha x (by simp [Op.operands])]; exact h'
  case extract x i => exact lift (ev_extract _ _ _) h fun K' s' ha Q' h' => by simp only [dop]; rw [ha x (by simp [Op.operands])]; exact h'
  case call c =>
    have hargs : ∀ s' : DS, (∀ x ∈ (Op.call c).operands, dev G s'.env x = dev G s.env x) → devs G s'.env c.args.toList = devs G s.env c.args.toList := by
      intro s' ha
      exact devs_congr fun x hx => ha x (by simp at hx; simp [Op.operands, Call.operands, hx])
    simp only [dop] at h ⊢
    cases hc : c.callee with
    | value f => rw [hc] at he; cases he
    | invoke r m => rw [hc] at he; cases he
    | builtin b =>
      rw [hc] at h he
      simp only [dCallee] at h ⊢
      cases b <;> simp only at he <;> try (cases he; done)
      case len =>
        cases hx : devs G s.env c.args.toList with
        | nil => rw [hx] at h; exact h.elim
        | cons x xs =>
          cases xs with
          | cons y ys => rw [hx] at h; exact h.elim
          | nil =>
            rw [hx] at h
            obtain ⟨d, h1, h2⟩ := ev_lenTs P x dst c.argTypes.toList K s h
            exact ⟨d, h1, fun Q' K' s' ha _ h' => by rw [hargs s' ha, hx]; exact h2 K' s' h'⟩
      case min =>
        obtain ⟨d, h1, h2⟩ := evf_putO dst (dMinMax false (devs G s.env c.args.toList)) K s h
        exact ⟨d, h1, fun Q' K' s' ha _ h' => by rw [hargs s' ha]; exact h2 K' s' h'⟩
      case max =>
        obtain ⟨d, h1, h2⟩ := evf_putO dst (dMinMax true (devs G s.env c.args.toList)) K s h
        exact ⟨d, h1, fun Q' K' s' ha _ h' => by rw [hargs s' ha]; exact h2 K' s' h'⟩

theorem dop_congr {dst : Option Nat} {K K' : DK} {Q Q' : DExit → DS → Prop} {s s' : DS} (op : Op) (ha : ∀ x ∈ op.operands, dev G s'.env x = dev G s.env x) (hh : s'.heap = s.heap)
    (hK : ∀ d h, K ⟨updO s.env dst d, h⟩ → K' ⟨updO s'.env dst d, h⟩) (hQ : ∀ v h, Q (.panic v) ⟨s.env, h⟩ → Q' (.panic v) ⟨s'.env, h⟩)
    (h : dop P G dst K Q s op) : dop P G dst K' Q' s' op := by
  by_cases he : eagerOp op = true
  · obtain ⟨d, h1, h2⟩ := eager_spec op he h
    refine h2 Q' K' s' ha (fun a _ r off _ => by rw [hh]) ?_
    show K' ⟨updO s'.env dst d, s'.heap⟩
    rw [hh]; exact hK _ _ h1
  · have newP : ∀ {cs e}, DNewP cs e dst K s → DNewP cs e dst K' s' := fun hn r hr => by
      rw [hh] at hr ⊢; exact hK _ _ (hn r hr)
    have newS : ∀ {cs e sz l c}, DNewS cs e sz l c dst K s → DNewS cs e sz l c dst K' s' := fun hn r hr => by
      rw [hh] at hr ⊢; exact hK _ _ (hn r hr)
    have panic : ∀ {x}, dPanic Q s x → dPanic Q' s' x := by
      intro x hx
      unfold dPanic at hx ⊢
      split at hx <;> try exact hx.elim
      have := hQ _ _ hx
      rw [← hh] at this; exact this
    cases op <;> (try exact (he rfl).elim) <;> (try exact h.elim)
    case binOp op t x y t' =>
      have hn : isNilS y = true := by
        simp only [eagerOp] at he
        cases hy : isNilS y with
        | true => rfl
        | false => rw [hy] at he; exact absurd rfl he
      simp only [dop] at h ⊢
      rw [ha x (by simp [Op.operands]), ha y (by simp [Op.operands])]
      rw [hn] at h ⊢
      generalize dev G s.env x = dx at h ⊢
      generalize dev G s.env y = dy at h ⊢
      have put : ∀ d, dput dst d K s → dput dst d K' s' := fun d h => by unfold dput at *; rw [hh]; exact hK _ _ h
      have rest : dBin P t (isConst x || isConst y) op dst dx dy K s → dBin P t (isConst x || isConst y) op dst dx dy K' s' := fun h => by
        obtain ⟨d, h1, h2⟩ := ev_bin _ _ _ _ _ _ _ K s h
        exact h2 K' s' (put d h1)
      cases dx <;> first | exact rest h | skip
      simp only [dBinX] at h ⊢
      refine ⟨h.1, fun b hb => ?_⟩
      obtain ⟨d, h1, h2⟩ := ev_eqP _ _ _ K s (h.2 b hb)
      exact h2 K' s' (put d h1)
    case makeMap t r =>
      simp only [dop] at h ⊢
      rw [devO_congr (x := r) (env := s.env) (fun y hy => ha y (by simp at hy; simp [Op.operands, hy]))]
      generalize P.underlying t = u at h ⊢
      generalize devO G s.env r = v at h ⊢
      unfold dMakeMap at h ⊢
      split at h <;> try exact h.elim
      all_goals exact fun r hr => by rw [hh] at hr ⊢; exact hK _ _ (h r hr)
    case lookup t x k ok =>
      simp only [dop] at h ⊢
      rw [ha x (by simp [Op.operands]), ha k (by simp [Op.operands])]
      generalize P.underlying t = u at h ⊢
      generalize dev G s.env x = dx at h ⊢
      generalize dev G s.env k = dk at h ⊢
      have put : ∀ d, dput dst d K s → dput dst d K' s' := fun d h => by unfold dput at *; rw [hh]; exact hK _ _ h
      have hF : ∀ es z r, dLookF es ok dst z r K s → dLookF es ok dst z r K' s' := fun es z r h => by
        unfold dLookF at h ⊢
        split at h <;> try exact h.elim
        · obtain ⟨p, h1, h2⟩ := h; exact ⟨p, h1, put _ h2⟩
        · exact put _ h
      unfold dLookup at h ⊢
      split at h <;> try exact h.elim
      · refine ⟨h.1, ?_⟩
        have h2 := h.2
        rw [hh]
        generalize s.heap _ = ob at h2 ⊢
        unfold dLookO at h2 ⊢
        split at h2 <;> try exact h2.elim
        exact hF _ _ _ h2
      · exact ⟨h.1, hF _ _ _ h.2⟩
    case mapUpdate t m k x =>
      simp only [dop] at h ⊢
      rw [ha m (by simp [Op.operands]), ha k (by simp [Op.operands]), ha x (by simp [Op.operands])]
      generalize P.underlying t = u at h ⊢
      generalize dev G s.env m = dm at h ⊢
      generalize dev G s.env k = dk at h ⊢
      generalize dev G s.env x = dx at h ⊢
      unfold dMapUpd at h ⊢
      split at h <;> try exact h.elim
      obtain ⟨h1, h2, h3⟩ := h
      refine ⟨h1, h2, ?_⟩
      rw [hh]
      generalize s.heap _ = ob at h3 ⊢
      unfold dMapUpdO at h3 ⊢
      split at h3 <;> try exact h3.elim
      refine ⟨h3.1, ?_⟩
      have h4 := h3.2
      unfold dMapUpdF at h4 ⊢
      split at h4 <;> try exact h4.elim
      subst h1
      rw [hh]; exact hK dundef _ h4
    case alloc e =>
      simp only [dop] at h ⊢
      generalize zeroOf P e = z at h ⊢
      cases z with
      | none => exact h.elim
      | some z => exact newP h
    case box e x => simp only [dop] at h ⊢; rw [ha x (by simp [Op.operands])]; exact newP h
    case buildSlice t n ps =>
      simp only [dop] at h ⊢
      rw [dparts_congr (env := s.env) (fun x hx => ha x (by simpa [Op.operands] using hx))]
      generalize dparts G s.env ps.toList = qs at h ⊢
      generalize P.underlying t = u at h ⊢
      unfold dBuildSlice at h ⊢
      split at h <;> try exact h.elim
      show dBuildSliceZ _ _ _ _ _ _ _ _
      generalize zeroOf P _ = z at h ⊢
      cases z with
      | none => exact h.elim
      | some z =>
        obtain ⟨h1, h2, h3⟩ := h
        refine ⟨h1, h2, ?_⟩
        generalize dfill _ _ _ = f at h3 ⊢
        cases f with
        | none => exact h3.elim
        | some f => exact newS h3
    case store t a x =>
      simp only [dop] at h ⊢
      obtain ⟨h1, h2⟩ := h
      refine ⟨h1, ?_⟩
      rw [ha a (by simp [Op.operands]), ha x (by simp [Op.operands])]
      generalize dev G s.env a = va at h2 ⊢
      generalize dev G s.env x = vx at h2 ⊢
      unfold dStore at h2 ⊢
      split at h2 <;> try exact h2.elim
      rename_i hx0 hx1 hx2 hx3
      rw [hh]
      generalize s.heap _ = ob at h2 ⊢
      unfold dStoreH at h2 ⊢
      split at h2 <;> try exact h2.elim
      obtain ⟨g1, g2, g3, g4⟩ := h2
      refine ⟨g1, g2, g3, ?_⟩
      rw [hh]
      exact hK dundef _ g4
    case makeSlice t l c =>
      simp only [dop] at h ⊢
      rw [ha l (by simp [Op.operands]), ha c (by simp [Op.operands])]
      generalize dev G s.env l = vl at h ⊢
      generalize dev G s.env c = vc at h ⊢
      generalize P.underlying t = u at h ⊢
      unfold dMakeSlice at h ⊢
      split at h <;> try exact h.elim
      show dMakeSliceZ _ _ _ _ _ _ _ _ _
      generalize zeroOf P _ = z at h ⊢
      cases z with
      | none => exact h.elim
      | some z =>
        obtain ⟨h1, h2, h3, h4, h5, h6, h7⟩ := h
        exact ⟨h1, h2, h3, h4, h5, h6, newS h7⟩
    case panic x => simp only [dop] at h ⊢; rw [ha x (by simp [Op.operands])]; exact panic h
    case call c =>
      have hargs : devs G s'.env c.args.toList = devs G s.env c.args.toList := 
        devs_congr fun x hx => ha x (by simp at hx; simp [Op.operands, Call.operands, hx])
      simp only [dop] at h ⊢
      cases hc : c.callee with
      | invoke r m => rw [hc] at h; exact h.elim
      | value f =>
        rw [hc] at h
        simp only [dCallee] at h ⊢
        rw [hargs, ha f (by simp [Op.operands, Call.operands, hc])]
        generalize dev G s.env f = vf at h ⊢
        unfold dCallV at h ⊢
        split at h <;> try exact h.elim
        all_goals
          rw [hh]
          refine h.mono ?_
          intro e H' hr
          cases e with
          | ret v => exact hK _ _ hr
          | panic v => exact hQ _ _ hr
      | builtin b =>
        rw [hc] at h
        simp only [dCallee] at h ⊢
        rw [hargs]
        generalize devs G s.env c.args.toList = vs at h ⊢
        cases b <;> (try (cases vs <;> exact h.elim)) <;> (try (exfalso; refine he ?_; simp [eagerOp, hc]; done))
        case cap =>
          cases vs with
          | nil => exact h.elim
          | cons x vs => ?_
          cases vs with
          | cons z vs => exact h.elim
          | nil => ?_
          simp only [dBuiltin] at h ⊢
          generalize c.argTypes.toList = ts at h ⊢
          unfold dCapTs at h ⊢
          split at h <;> try exact h.elim
          show dCap _ _ _ _ _
          generalize P.underlying _ = u at h ⊢
          unfold dCap at h ⊢
          split at h <;> try exact h.elim
          · show K' ⟨_, s'.heap⟩
            rw [hh]; exact hK _ _ h
          · intro c hc
            show K' ⟨_, s'.heap⟩
            rw [hh]; exact hK _ _ (h c hc)
          · intro c hc hc'
            show K' ⟨_, s'.heap⟩
            rw [hh]; exact hK _ _ (h c hc hc')
        case clear =>
          cases vs with
          | nil => exact h.elim
          | cons x vs => ?_
          cases vs with
          | cons z vs => exact h.elim
          | nil => ?_
          simp only [dBuiltin] at h ⊢
          generalize c.argTypes.toList = ts at h ⊢
          unfold dClearTs at h ⊢
          split at h <;> try exact h.elim
          show dClear _ _ _ _ _ _
          generalize P.underlying _ = u at h ⊢
          unfold dClear at h ⊢
          split at h <;> try exact h.elim
          generalize zeroOf _ _ = zo at h ⊢
          unfold dClearS at h ⊢
          split at h <;> try exact h.elim
          · show K' ⟨_, s'.heap⟩
            rw [hh]; exact hK _ _ h
          · refine ⟨h.1, h.2.1, ?_⟩
            have h2 := h.2.2
            rw [hh]
            generalize s.heap _ = ob at h2 ⊢
            unfold dClearO at h2 ⊢
            split at h2 <;> try exact h2.elim
            refine ⟨h2.1, h2.2.1, h2.2.2.1, ?_⟩
            rw [hh]; exact hK _ _ h2.2.2.2
        case delete =>
          cases vs with
          | nil => exact h.elim
          | cons x vs => ?_
          cases vs with
          | nil => exact h.elim
          | cons y vs => ?_
          cases vs with
          | cons z vs => exact h.elim
          | nil => ?_
          simp only [dBuiltin] at h ⊢
          generalize c.argTypes.toList = ts at h ⊢
          unfold dMapDelTs at h ⊢
          split at h <;> try exact h.elim
          show dMapDel _ _ _ _ _ _ _
          generalize P.underlying _ = u at h ⊢
          unfold dMapDel at h ⊢
          split at h <;> try exact h.elim
          refine ⟨h.1, ?_⟩
          have h2 := h.2
          rw [hh]
          generalize s.heap _ = ob at h2 ⊢
          unfold dMapDelO at h2 ⊢
          split at h2 <;> try exact h2.elim
          unfold dMapDelF at h2 ⊢
          split at h2 <;> try exact h2.elim
          rw [hh]; exact hK _ _ h2
        case append =>
          cases vs with
          | nil => exact h.elim
          | cons x vs => ?_
          cases vs with
          | nil => exact h.elim
          | cons y vs => ?_
          cases vs with
          | cons z vs => exact h.elim
          | nil => ?_
          simp only [dBuiltin] at h ⊢
          generalize c.argTypes.toList = ts at h ⊢
          unfold dAppendTs at h ⊢
          split at h <;> try exact h.elim
          show dAppendU _ _ _ _ _ _ _ _ _
          generalize isIntT _ = it at h ⊢
          cases it with
          | true =>
            simp only [dAppendU] at h ⊢
            generalize P.underlying _ = u at h ⊢
            unfold dAppendX at h ⊢
            split at h <;> try exact h.elim
            generalize zeroOf _ _ = zo at h ⊢
            unfold dAppendI at h ⊢
            split at h <;> try exact h.elim
            refine ⟨h.1, h.2.1, fun hn => ?_, fun hn => ⟨(h.2.2.2 hn).1, (h.2.2.2 hn).2.1, (h.2.2.2 hn).2.2.1, newS (h.2.2.2 hn).2.2.2⟩⟩
            have := h.2.2.1 hn
            show K' ⟨_, s'.heap⟩
            rw [hh]; exact hK _ _ this
          | false => ?_
          simp only [dAppendU] at h ⊢
          generalize notInt _ = u' at h ⊢
          generalize P.underlying _ = u at h ⊢
          unfold dAppend at h ⊢
          split at h <;> try exact h.elim
          obtain ⟨g1, g2, g3, g4, g5, g6⟩ := h
          refine ⟨g1, g2, g3, g4, g5, ?_⟩
          rw [hh]
          generalize srcCells _ _ _ = sc at g6 ⊢
          unfold dAppendN at g6 ⊢
          split at g6 <;> try exact g6.elim
          obtain ⟨k1, k2, k3⟩ := g6
          refine ⟨k1, k2, ?_⟩
          unfold dAppendTo at k3 ⊢
          split at k3 <;> try exact k3.elim
          · refine ⟨fun hn => ?_, fun hn => ⟨(k3.2 hn).1, newS (k3.2 hn).2⟩⟩
            have := k3.1 hn
            show K' ⟨_, s'.heap⟩
            rw [hh]; exact hK _ _ this
          · refine ⟨k3.1, ?_⟩
            have k4 := k3.2
            rw [hh]
            generalize s.heap _ = ob at k4 ⊢
            unfold dAppendO at k4 ⊢
            split at k4 <;> try exact k4.elim
            obtain ⟨m1, m2, m3⟩ := k4
            refine ⟨m1, fun hl => ⟨(m2 hl).1, ?_⟩, fun hl => ⟨(m3 hl).1, (m3 hl).2.1, fun r' pre hr hp => ?_⟩⟩
            · rw [hh]; exact hK _ _ (m2 hl).2
            · rw [hh] at hr ⊢; exact hK _ _ ((m3 hl).2.2 r' pre hr hp)
        case panic =>
          cases vs with
          | nil => exact h.elim
          | cons x xs => cases xs with
            | nil => exact panic h
            | cons y ys => exact h.elim

end
end Go.Dl
