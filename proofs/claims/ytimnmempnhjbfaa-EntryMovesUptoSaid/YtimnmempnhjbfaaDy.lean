/-
  THE DATA LEVEL, PART Y: regions whose order is drawn: a plan takes operations that only compute as early as they may come; whatever order is drawn ends as the plan does.
-/
import Derived.Test.YtimnmempnhjbfaaDx
import Derived.Orders
set_option linter.unusedSimpArgs false
set_option linter.unusedVariables false
namespace Go.Dl
open Go

/-- It leaves a value, and that hangs on its operands alone (on the block behind its address, for a load). -/
def EVF (dst : Option Nat) (F : DK → DS → Prop) : Prop :=
  ∀ K s, F K s → ∃ d, dput dst d K s ∧ ∀ K' s', dput dst d K' s' → F K' s'

theorem EVF.of {dst : Option Nat} {F : DK → DS → Prop} {K : DK} {s : DS} (d : DVal) (h : dput dst d K s) (hF : ∀ K' s', dput dst d K' s' → F K' s') : ∃ d, dput dst d K s ∧ ∀ K' s', dput dst d K' s' → F K' s' := ⟨d, h, hF⟩
theorem evf_put (dst : Option Nat) (d : DVal) : EVF dst (dput dst d) := fun K s h => ⟨d, h, fun K' s' h' => h'⟩
theorem evf_false (dst : Option Nat) {F : DK → DS → Prop} (h : ∀ K s, ¬ F K s) : EVF dst F := fun K s hf => (h K s hf).elim
theorem evf_and {dst : Option Nat} {p : Prop} {F : DK → DS → Prop} (h : EVF dst F) : EVF dst (fun K s => p ∧ F K s) := fun K s ⟨hp, hf⟩ => by
  obtain ⟨d, h1, h2⟩ := h K s hf
  exact ⟨d, h1, fun K' s' h' => ⟨hp, h2 K' s' h'⟩⟩
theorem evf_putO (dst : Option Nat) (o : Option DVal) : EVF dst (dputO dst o) := by
  cases o with
  | none => exact evf_false _ fun K s h => h
  | some d => exact evf_put dst d
theorem evf_eq {dst : Option Nat} {F F' : DK → DS → Prop} (h : EVF dst F') (e : ∀ K s, F K s = F' K s) : EVF dst F := by
  have : F = F' := funext fun K => funext fun s => e K s
  rw [this]; exact h

theorem ev_pick (dst : Option Nat) (c a b : DVal) : EVF dst (dPick dst c a b) := by
  intro K s h; revert h; unfold dPick; split
  · intro h; exact ⟨_, h, fun _ _ h' => h'⟩
  · intro h; exact h.elim
theorem ev_build (P : Program) (dst : Option Nat) (b : Bool) (t : Option TypeDesc) (z : Option DVal) (ps : List (Nat × DVal)) : EVF dst (dBuild P dst b t z ps) := by
  intro K s h; revert h; unfold dBuild; split
  · intro h; exact evf_putO _ _ K s h
  · intro h; exact evf_putO _ _ K s h
  · intro h; exact h.elim
theorem ev_loadC (size : Nat) (dst : Option Nat) (ag : Option Bool) (cs : List DVal) (off : Nat) : EVF dst (dLoadC size dst ag cs off) := by
  intro K s h; revert h; unfold dLoadC; split
  · intro h; exact evf_and (evf_put _ _) K s h
  · intro h; exact evf_putO _ _ K s h
  · intro h; exact h.elim
theorem ev_loadH (size : Nat) (ag : Option Bool) (dst : Option Nat) (off : Nat) (o : Option DObj) : EVF dst (dLoadH size ag dst off o) := by
  intro K s h; revert h; unfold dLoadH; split
  · intro h; exact ev_loadC _ _ _ _ _ K s h
  · intro h; exact h.elim
theorem ev_load (size : Nat) (ag : Option Bool) (dst : Option Nat) (v : DVal) (K : DK) (s : DS) (h : dLoad size ag dst v K s) :
    ∃ d, dput dst d K s ∧ ∀ K' s', (∀ r off, v = .optr r off → s'.heap r = s.heap r) → dput dst d K' s' → dLoad size ag dst v K' s' := by
  unfold dLoad at h
  split at h <;> try exact h.elim
  · obtain ⟨d, h1, h2⟩ := ev_loadC _ _ _ _ _ K s h
    exact ⟨d, h1, fun K' s' _ h' => h2 K' s' h'⟩
  · rename_i r off
    obtain ⟨d, h1, h2⟩ := ev_loadH _ _ _ _ _ K s h
    exact ⟨d, h1, fun K' s' hk h' => by show dLoadH _ _ _ _ (s'.heap r) K' s'; rw [hk r off rfl]; exact h2 K' s' h'⟩
theorem ev_nilCheck (dst : Option Nat) (v : DVal) : EVF dst (dNilCheck dst v) := by
  intro K s h; revert h; unfold dNilCheck; split <;> intro h <;> first | exact h.elim | exact ⟨_, h, fun _ _ h' => h'⟩
theorem ev_eqP (dst : Option Nat) (o b : Option Bool) : EVF dst (dEqP dst o b) := by
  intro K s h; revert h; unfold dEqP; split <;> intro h <;> first | exact h.elim | exact ⟨_, h, fun _ _ h' => h'⟩
theorem ev_intBin (k : IntKind) (a b : Int) (dst : Option Nat) (op : BinOp) : EVF dst (fun K s => dIntBin k a b dst K s op) := by
  intro K s h; revert h; unfold dIntBin; split <;> intro h <;> first | exact h.elim | exact ⟨_, h, fun _ _ h' => h'⟩ | exact ⟨_, h.2, fun _ _ h' => ⟨h.1, h'⟩⟩
theorem ev_shift (k : IntKind) (a b : Int) (dst : Option Nat) (op : BinOp) : EVF dst (fun K s => dShift k a b dst K s op) := by
  intro K s h; revert h; unfold dShift; split <;> intro h <;> first | exact h.elim | exact ⟨_, h, fun _ _ h' => h'⟩ | exact ⟨_, h.2, fun _ _ h' => ⟨h.1, h'⟩⟩
theorem ev_strBin (a b : List UInt8) (dst : Option Nat) (op : BinOp) : EVF dst (fun K s => dStrBin a b dst K s op) := by
  intro K s h; revert h; unfold dStrBin; split <;> intro h <;> first | exact h.elim | exact ⟨_, h, fun _ _ h' => h'⟩ | exact ⟨_, h.2, fun _ _ h' => ⟨h.1, h'⟩⟩
theorem ev_binI (op : BinOp) (k k' : IntKind) (a b : Int) (dst : Option Nat) (x : Bool) : EVF dst (fun K s => dBinI op k k' a b dst K s x) := by
  cases x
  · exact evf_and (ev_intBin k a b dst op)
  · exact ev_shift k a b dst op
theorem ev_bin (P : Program) (t : TypeId) (c : Bool) (op : BinOp) (dst : Option Nat) (x y : DVal) : EVF dst (dBin P t c op dst x y) := by
  intro K s h; revert h; unfold dBin; split
  · intro h; exact ev_binI _ _ _ _ _ _ _ K s h
  · intro h; exact ev_strBin _ _ _ _ K s h
  · intro h; exact evf_and (evf_and (ev_eqP _ _ _)) K s h
  · intro h; exact ev_eqP _ _ _ K s h
theorem ev_un (dst : Option Nat) (op : UnOp) (x : DVal) : EVF dst (dUn dst op x) := by
  intro K s h; revert h; unfold dUn; split <;> intro h <;> first | exact h.elim | exact ⟨_, h, fun _ _ h' => h'⟩
theorem ev_convert (dst : Option Nat) (a b : Option TypeDesc) (x : DVal) : EVF dst (dConvert dst a b x) := by
  intro K s h; revert h; unfold dConvert; split <;> intro h <;> first | exact h.elim | exact ⟨_, h, fun _ _ h' => h'⟩
theorem ev_makeIface (t : TypeId) (x : DVal) (dst : Option Nat) (b : Bool) : EVF dst (dMakeIface t x dst b) := by
  intro K s h; revert h; unfold dMakeIface; split <;> intro h <;> first | exact h.elim | exact ⟨_, h, fun _ _ h' => h'⟩
theorem ev_sliceStr (l : List UInt8) (dst : Option Nat) (a b : Option Int) : EVF dst (fun K s => dSliceStr l dst K s a b) := by
  cases a <;> cases b <;> first | exact evf_false _ (fun K s h => h) | exact evf_and (evf_and (evf_and (evf_put _ _)))
theorem ev_sliceV (size : Nat) (cs : List DVal) (len : Nat) (dst : Option Nat) (a b : Option Int) : EVF dst (fun K s => dSliceV size cs len dst K s a b) := by
  cases a <;> cases b <;> first | exact evf_false _ (fun K s h => h) | exact evf_and (evf_and (evf_and (evf_put _ _)))
theorem ev_sliceO (size r off cap : Nat) (dst : Option Nat) (a b c : Option Int) : EVF dst (fun K s => dSliceO size r off cap dst K s a b c) := by
  cases a <;> cases b <;> cases c <;> first | exact evf_false _ (fun K s h => h) | exact evf_and (evf_and (evf_and (evf_and (evf_put _ _))))
theorem ev_sliceN (dst : Option Nat) (a b : Option Int) : EVF dst (fun K s => dSliceN dst K s a b) := by
  cases a <;> cases b <;> first | exact evf_false _ (fun K s h => h) | exact evf_and (evf_and (evf_put _ _))
theorem ev_slice (P : Program) (lo hi : Option DVal) (dst : Option Nat) (t : Option TypeDesc) (v : DVal) (m : Option DVal) (K : DK) (s : DS) (h : dSlice P lo hi dst t v m K s) :
    ∃ d, dput dst d K s ∧ ∀ K' s', (∀ r off, v = .optr r off → s'.heap r = s.heap r) → dput dst d K' s' → dSlice P lo hi dst t v m K' s' := by
  have lift : ∀ {F : DK → DS → Prop}, EVF dst F → F K s → ∃ d, dput dst d K s ∧ ∀ K' s', (∀ r off, v = .optr r off → s'.heap r = s.heap r) → dput dst d K' s' → F K' s' := by
    intro F hF hf
    obtain ⟨d, h1, h2⟩ := hF K s hf
    exact ⟨d, h1, fun K' s' _ h' => h2 K' s' h'⟩
  unfold dSlice at h
  split at h <;> try exact h.elim
  · exact lift (ev_sliceStr _ _ _ _) h
  · exact lift (evf_and (ev_sliceN _ _ _)) h
  · exact lift (evf_and (ev_sliceV _ _ _ _ _ _)) h
  · exact lift (evf_and (evf_and (ev_sliceO _ _ _ _ _ _ _ _))) h
  · exact lift (evf_and (evf_and (evf_and (ev_sliceO _ _ _ _ _ _ _ _)))) h
  · rename_i n e r off
    obtain ⟨h1, h2, h3⟩ := h
    obtain ⟨d, h4, h5⟩ := ev_sliceO _ _ _ _ _ _ _ _ K s h3
    exact ⟨d, h4, fun K' s' hk h' => ⟨h1, by rw [hk r off rfl]; exact h2, h5 K' s' h'⟩⟩
  · exact lift (evf_and (evf_and (ev_sliceV _ _ _ _ _ _))) h
theorem ev_fieldAddrF (P : Program) (x : DVal) (dst : Option Nat) (f : Option Field) : EVF dst (dFieldAddrF P x dst f) := by
  cases f with
  | none => exact evf_false _ (fun K s h => h)
  | some f => exact evf_and (evf_putO _ _)
theorem ev_fieldAddr (P : Program) (f : Nat) (x : DVal) (dst : Option Nat) (t : Option TypeDesc) : EVF dst (dFieldAddr P f x dst t) := by
  intro K s h; revert h; unfold dFieldAddr; split
  · intro h; exact ev_fieldAddrF _ _ _ _ K s h
  · intro h; exact h.elim
theorem ev_part (size : Nat) (cs : List DVal) (off : Nat) (dst : Option Nat) (b : Option Bool) : EVF dst (dPart size cs off dst b) := by
  intro K s h; revert h; unfold dPart; split
  · intro h; exact evf_put _ _ K s h
  · intro h; exact evf_putO _ _ K s h
  · intro h; exact h.elim
theorem ev_fieldF (P : Program) (cs : List DVal) (dst : Option Nat) (f : Option Field) : EVF dst (dFieldF P cs dst f) := by
  cases f with
  | none => exact evf_false _ (fun K s h => h)
  | some f => exact ev_part _ _ _ _ _
theorem ev_field (P : Program) (f : Nat) (dst : Option Nat) (t : Option TypeDesc) (x : DVal) : EVF dst (dField P f dst t x) := by
  intro K s h; revert h; unfold dField; split
  · intro h; exact ev_fieldF _ _ _ _ K s h
  · intro h; exact h.elim
theorem ev_indexAddr (P : Program) (dst : Option Nat) (t : Option TypeDesc) (x i : DVal) : EVF dst (dIndexAddr P dst t x i) := by
  intro K s h; revert h; unfold dIndexAddr; split
  · intro h; exact evf_and (evf_and (evf_and (evf_and (evf_put _ _)))) K s h
  · intro h; exact evf_and (evf_and (evf_and (evf_put _ _))) K s h
  · intro h; exact evf_and (evf_and (evf_and (evf_putO _ _))) K s h
  · intro h; exact h.elim
theorem ev_index (P : Program) (dst : Option Nat) (t : Option TypeDesc) (x i : DVal) : EVF dst (dIndex P dst t x i) := by
  intro K s h; revert h; unfold dIndex; split
  · intro h; exact evf_and (evf_and (ev_part _ _ _ _ _)) K s h
  · intro h; exact evf_and (evf_putO _ _) K s h
  · intro h; exact h.elim
theorem ev_extract (i : Nat) (dst : Option Nat) (x : DVal) : EVF dst (dExtract i dst x) := by
  intro K s h; revert h; unfold dExtract; split
  · intro h; exact evf_putO _ _ K s h
  · intro h; exact h.elim
theorem ev_assertZ (dst : Option Nat) (z : Option DVal) : EVF dst (dAssertZ dst z) := by
  cases z with
  | none => exact evf_false _ (fun K s h => h)
  | some z => exact evf_put _ _
theorem ev_assertIs (v : DVal) (z : Option DVal) (dst : Option Nat) (a b : Bool) : EVF dst (dAssertIs v z dst a b) := by
  cases a <;> cases b
  · exact evf_false _ (fun K s h => h)
  · exact evf_put _ _
  · exact ev_assertZ _ _
  · exact evf_put _ _
theorem ev_typeAssert (P : Program) (t : TypeId) (ok : Bool) (dst : Option Nat) (b : Bool) (x : DVal) : EVF dst (dTypeAssert P t ok dst b x) := by
  intro K s h; revert h; unfold dTypeAssert; split
  · intro h; exact ev_assertIs _ _ _ _ _ K s h
  · intro h; exact evf_and (ev_assertZ _ _) K s h
  · intro h; exact h.elim
theorem ev_len (dst : Option Nat) (t : Option TypeDesc) (x : DVal) : EVF dst (dLen dst t x) := by
  intro K s h; revert h; unfold dLen; split <;> intro h <;> first | exact h.elim | exact ⟨_, h, fun _ _ h' => h'⟩
theorem ev_lenTs (P : Program) (x : DVal) (dst : Option Nat) (ts : List TypeId) : EVF dst (dLenTs P x dst ts) := by
  intro K s h; revert h; unfold dLenTs; split
  · intro h; exact ev_len _ _ _ K s h
  · intro h; exact h.elim

/-- Does it only compute? -/
def eagerOp : Op → Bool
  | .move _ | .assign _ | .pick _ _ _ | .build _ _ | .load _ _ | .nilCheck _ | .unOp _ _ _ | .convert _ _ _ | .makeInterface _ _ | .makeFunc _ _ _
  | .slice _ _ _ _ _ | .fieldAddr _ _ _ | .field _ _ _ | .indexAddr _ _ _ | .index _ _ _ | .typeAssert _ _ _ _ | .extract _ _ => true
  | .binOp _ _ _ y _ => !isNilS y
  | .call c => match c.callee with
    | .builtin .len | .builtin .min | .builtin .max => true
    | _ => false
  | _ => false

/-- The address that it looks behind. -/
def lookOp : Op → Option Operand
  | .load _ a => some a
  | .slice _ x _ _ _ => some x
  | _ => none

def LookKeep (G : Nat → DVal) (s s' : DS) (op : Op) : Prop := ∀ a, lookOp op = some a → ∀ r off, dev G s.env a = .optr r off → s'.heap r = s.heap r

theorem devs_congr {G : Nat → DVal} {env env' : Nat → DVal} : ∀ {xs : List Operand}, (∀ x ∈ xs, dev G env' x = dev G env x) → devs G env' xs = devs G env xs
  | [], _ => rfl
  | x :: xs, h => by
    simp only [devs]
    rw [h x (by simp), devs_congr fun y hy => h y (by simp [hy])]
theorem dparts_congr {G : Nat → DVal} {env env' : Nat → DVal} : ∀ {xs : List (Nat × Operand)}, (∀ x ∈ xs.map (·.2), dev G env' x = dev G env x) → dparts G env' xs = dparts G env xs
  | [], _ => rfl
  | (i, x) :: xs, h => by
    simp only [dparts]
    rw [h x (by simp), dparts_congr fun y hy => h y (by simp at hy ⊢; exact .inr hy)]
theorem devO_congr {G : Nat → DVal} {env env' : Nat → DVal} {x : Option Operand} (h : ∀ y ∈ x.toArray, dev G env' y = dev G env y) : devO G env' x = devO G env x := by
  cases x with
  | none => rfl
  | some x => simp only [devO]; rw [h x (by simp)]

/-- The guard's value, if it can be told. -/
def wantedD (all : List Oper) (env : Nat → DVal) (o : Oper) : Option Bool :=
  match o.guard with
  | none => some true
  | some (j, b) => match dstOf all j with
    | some g => match env g with
      | .bool v => some (v == b)
      | _ => none
    | none => none

end Go.Dl
