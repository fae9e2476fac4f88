/-
  THE DATA LEVEL, PART 1: plans of regions whose order is drawn.
-/
import Derived.Test.YtimnmempnhjbfaaDz
set_option linter.unusedSimpArgs false
set_option linter.unusedVariables false
namespace Go.Dl
open Go

inductive Plan where
  | done
  | take (i : Nat) (p : Plan)
  | go (i : Nat) (ls : List Nat) (p : Plan)
  | alt (p q : Plan)
  deriving Inhabited

def operAt : List Oper → Nat → Option Oper
  | [], _ => none
  | o :: _, 0 => some o
  | _ :: r, n + 1 => operAt r n

def dGuardK (P : Program) (G : Nat → DVal) (K : DK) (Q : DExit → DS → Prop) (dst : Option Nat) (op : Op) (s : DS) : Bool → DVal → Prop
  | true, .bool true => dop P G dst K Q s op
  | true, .bool false => dput dst dundef K s
  | false, .bool true => dput dst dundef K s
  | false, .bool false => dop P G dst K Q s op
  | _, _ => False
def dGuardKO (P : Program) (G : Nat → DVal) (K : DK) (Q : DExit → DS → Prop) (dst : Option Nat) (op : Op) (s : DS) (b : Bool) : Option Nat → Prop
  | some g => dGuardK P G K Q dst op s b (s.env g)
  | none => False
def dOne (P : Program) (G : Nat → DVal) (all : List Oper) (K : DK) (Q : DExit → DS → Prop) (s : DS) (dst : Option Nat) (op : Op) : Option (Nat × Bool) → Prop
  | none => dop P G dst K Q s op
  | some (j, b) => dGuardKO P G K Q dst op s b (dstOf all j)
def dAt (P : Program) (G : Nat → DVal) (all : List Oper) (K : DK) (Q : DExit → DS → Prop) (s : DS) : Option Oper → Prop
  | some o => dOne P G all K Q s o.dst o.op o.guard
  | none => False

def keepAt (H H' : DHeap) : DVal → Prop
  | .optr r _ => H' r = H r
  | _ => True
def keepO (G : Nat → DVal) (s : DS) (H' : DHeap) : Option Operand → Prop
  | some a => keepAt s.heap H' (dev G s.env a)
  | none => True
def lookAtO : Option Oper → Option Operand
  | some o => lookOp o.op
  | none => none
def keepL (G : Nat → DVal) (all : List Oper) (s : DS) (H' : DHeap) : List Nat → Prop
  | [] => True
  | l :: ls => keepO G s H' (lookAtO (operAt all l)) ∧ keepL G all s H' ls
def KeepK (G : Nat → DVal) (all : List Oper) (ls : List Nat) (s : DS) (K : DK) : DK := fun s' => keepL G all s s'.heap ls ∧ K s'

def dplan (P : Program) (G : Nat → DVal) (all : List Oper) (Q : DExit → DS → Prop) : Plan → DS → Prop
  | .done, s => Q .normal s
  | .take i p, s => dAt P G all (dplan P G all Q p) Q s (operAt all i)
  | .go i ls p, s => dAt P G all (KeepK G all ls s (dplan P G all Q p)) Q s (operAt all i)
  | .alt p q, s => dplan P G all Q p s ∧ dplan P G all Q q s

/-- The same, asking of a panic's exit no more than the blocks. -/
def QP (Q : DExit → DS → Prop) : DExit → DS → Prop
  | .panic v, s => ∀ env, Q (.panic v) ⟨env, s.heap⟩
  | .normal, s => Q .normal s
  | _, _ => False

-- the check -------------------------------------------------------------------------------------------------------------------

def depB (all : List Oper) (k j : Nat) : Bool :=
  match operAt all k with
  | some o => o.after.any fun e => Region.binds .any e && e.on == j
  | none => false
def apartB (all : List Oper) (j k : Nat) : Bool :=
  match operAt all j, operAt all k with
  | some x, some y => x.apart all.toArray y
  | _, _ => true
def eagerB (all : List Oper) (i : Nat) : Bool :=
  match operAt all i with
  | some o => eagerOp o.op
  | none => false
def depsIn (all : List Oper) (k : Nat) (T : List Nat) : Bool :=
  match operAt all k with
  | some o => o.after.all fun e => !Region.binds .any e || T.contains e.on
  | none => false
def dstAt (all : List Oper) (j : Nat) : Option Nat := (operAt all j).bind (·.dst)
def firsts : Plan → List Nat
  | .go i _ _ => [i]
  | .alt p q => firsts p ++ firsts q
  | _ => []
def cover (all : List Oper) (T : List Nat) : Plan → Bool
  | .done => true
  | .take _ _ => true
  | p => (List.range all.length).all fun k => T.contains k || (firsts p).contains k || !depsIn all k T
def slotKept (all : List Oper) (T : List Nat) (l : Nat) : Operand → Bool
  | .tmp t => T.all fun m => dstAt all m != some t || depB all l m
  | _ => true
def looksOk (all : List Oper) (T : List Nat) (i : Nat) (ls : List Nat) : Bool :=
  T.all fun l => match lookAtO (operAt all l) with
    | none => true
    | some a => depB all i l || (ls.contains l && slotKept all T l a)
def planOk (all : List Oper) : Plan → List Nat → Bool
  | .done, T => (List.range all.length).all fun k => T.contains k
  | .take i p, T => decide (i < all.length) && !T.contains i && eagerB all i && depsIn all i T &&
      ((List.range all.length).all fun k => T.contains k || k == i || depB all k i || apartB all i k) && cover all (i :: T) p && planOk all p (i :: T)
  | .go i ls p, T => decide (i < all.length) && !T.contains i && depsIn all i T && looksOk all T i ls && cover all (i :: T) p && planOk all p (i :: T)
  | .alt p q, T => planOk all p T && planOk all q T

-- sequences -------------------------------------------------------------------------------------------------------------------

section
variable {P : Program} {G : Nat → DVal} {N : Nat} {all : List Oper} {Q : DExit → DS → Prop} {s0 : DS} {w0 : World}

theorem operAt_eq : ∀ (all : List Oper) (j : Nat), operAt all j = all[j]?
  | [], j => by simp [operAt]
  | o :: r, 0 => by simp [operAt]
  | o :: r, j + 1 => by simp [operAt, operAt_eq r j]

theorem dAt_wanted {o : Oper} {K : DK} {s : DS} : dAt P G all K Q s (some o) ↔
    (wantedD all s.env o = some true ∧ dop P G o.dst K Q s o.op) ∨ (wantedD all s.env o = some false ∧ dput o.dst dundef K s) := by
  simp only [dAt]
  unfold dOne wantedD
  cases o.guard with
  | none => simp
  | some jb =>
    obtain ⟨j, b⟩ := jb
    simp only
    cases dstOf all j with
    | none => simp [dGuardKO]
    | some g =>
      simp only [dGuardKO]
      cases hv : s.env g <;> (try (cases b <;> simp [dGuardK]; done))
      rename_i v
      cases b <;> cases v <;> simp [dGuardK]

/-- An operation that only computes leaves d. -/
def EVal (P : Program) (G : Nat → DVal) (all : List Oper) (j : Nat) (s : DS) (d : DVal) : Prop :=
  ∃ o, operAt all j = some o ∧ eagerOp o.op = true ∧
    ((wantedD all s.env o = some true ∧ ∀ K Q, dput o.dst d K s → dop P G o.dst K Q s o.op) ∨ (wantedD all s.env o = some false ∧ d = dundef))

def Seq (P : Program) (G : Nat → DVal) (all : List Oper) : DS → List Nat → DS → Prop
  | s, [], s' => s' = s
  | s, j :: js, s' => ∃ d, EVal P G all j s d ∧ Seq P G all ⟨updO s.env (dstAt all j) d, s.heap⟩ js s'

def looks (all : List Oper) (j : Nat) : List Nat :=
  match operAt all j with
  | some o => o.looksAt all.toArray
  | none => []

theorem looks_dev {o : Oper} {env env' : Nat → DVal} (h : ∀ t ∈ o.looksAt all.toArray, env' t = env t) : ∀ x ∈ o.op.operands, dev G env' x = dev G env x := by
  intro x hx
  cases x with
  | tmp t =>
    refine h t ?_
    unfold Oper.looksAt
    refine List.mem_append_left _ (List.mem_filterMap.2 ⟨.tmp t, by simpa using hx, rfl⟩)
  | _ => rfl

theorem looks_wanted {o : Oper} {env env' : Nat → DVal} (h : ∀ t ∈ o.looksAt all.toArray, env' t = env t) : wantedD all env' o = wantedD all env o := by
  unfold wantedD
  cases hg : o.guard with
  | none => rfl
  | some jb =>
    obtain ⟨j, b⟩ := jb
    simp only
    cases hj : dstOf all j with
    | none => rfl
    | some g =>
      simp only
      rw [h g]
      unfold Oper.looksAt
      refine List.mem_append_right _ ?_
      rw [hg]
      rw [dstOf_eq] at hj
      simp [hj]

theorem EVal.agree {j : Nat} {s s' : DS} {d : DVal} (h : EVal P G all j s d) (ha : ∀ t ∈ looks all j, s'.env t = s.env t)
    (hk : ∀ o a, operAt all j = some o → lookOp o.op = some a → keepAt s.heap s'.heap (dev G s.env a)) : EVal P G all j s' d := by
  obtain ⟨o, ho, he, h⟩ := h
  have ha' : ∀ t ∈ o.looksAt all.toArray, s'.env t = s.env t := by
    intro t ht; exact ha t (by unfold looks; rw [ho]; exact ht)
  refine ⟨o, ho, he, ?_⟩
  rw [looks_wanted ha']
  rcases h with ⟨hw, h⟩ | h
  · refine .inl ⟨hw, fun K' Q' hp => ?_⟩
    have h1 := h (fun s1 => s1 = ⟨updO s.env o.dst d, s.heap⟩) Q' rfl
    obtain ⟨d', hd', hall⟩ := eager_spec o.op he h1
    refine hall Q' K' s' (looks_dev (all := all) ha') ?_ ?_
    · intro a hl r off hv
      have := hk o a ho hl
      rw [hv] at this
      exact this
    · unfold dput at hd' hp ⊢
      have he : updO s.env o.dst d' = updO s.env o.dst d := congrArg DS.env hd'
      have : updO s'.env o.dst d' = updO s'.env o.dst d := by
        cases hdst : o.dst with
        | none => rfl
        | some t =>
          rw [hdst] at he
          have h2 := congrFun he t
          simp [updO, upd] at h2
          rw [h2]
      rw [this]; exact hp
  · exact .inr h

theorem updO_ne {env : Nat → DVal} {dst : Option Nat} {d : DVal} {t : Nat} (h : dst ≠ some t) : updO env dst d t = env t := by
  cases dst with
  | none => rfl
  | some k => simp only [updO, upd]; rw [if_neg]; intro e; exact h (by rw [e])

theorem updO_comm {env : Nat → DVal} {x y : Option Nat} {d e : DVal} (h : ∀ t, x = some t → y ≠ some t) : updO (updO env x d) y e = updO (updO env y e) x d := by
  cases x with
  | none => rfl
  | some i =>
    cases y with
    | none => rfl
    | some k =>
      have hne : k ≠ i := fun hh => h i rfl (by rw [hh])
      funext t
      simp only [updO, upd]
      by_cases h1 : t = k
      · subst h1; rw [if_pos rfl, if_neg hne, if_pos rfl]
      · rw [if_neg h1]
        by_cases h2 : t = i
        · rw [if_pos h2, if_pos h2]
        · rw [if_neg h2, if_neg h2, if_neg h1]

structure Apart (all : List Oper) (j k : Nat) : Prop where
  a : ∀ t, dstAt all j = some t → t ∉ looks all k
  b : ∀ t, dstAt all j = some t → dstAt all k ≠ some t
  c : ∀ t, dstAt all k = some t → t ∉ looks all j

theorem apartB_spec {j k : Nat} {x y : Oper} (hx : operAt all j = some x) (hy : operAt all k = some y) (h : apartB all j k = true) : Apart all j k := by
  unfold apartB at h
  rw [hx, hy] at h
  obtain ⟨h1, h2, h3⟩ := Oper.apart_spec h
  refine ⟨?_, ?_, ?_⟩ <;> simp only [dstAt, looks, hx, hy, Option.bind_some] <;> assumption

theorem keepAt_refl {H : DHeap} {v : DVal} : keepAt H H v := by
  unfold keepAt; split <;> trivial

/-- One that is apart from all before it may come first. -/
theorem Seq.front : ∀ {A : List Nat} {k : Nat} {B : List Nat} {s s' : DS}, (∀ j ∈ A, Apart all j k) → Seq P G all s (A ++ k :: B) s' → Seq P G all s (k :: (A ++ B)) s'
  | [], k, B, s, s', _, h => h
  | j :: A, k, B, s, s', hA, h => by
    obtain ⟨d, hd, h⟩ := h
    obtain ⟨dk, hk, h⟩ := Seq.front (fun i hi => hA i (by simp [hi])) h
    have ap := hA j (by simp)
    refine ⟨dk, hk.agree (fun t ht => (updO_ne (fun e => ap.a t e ht)).symm) (fun _ _ _ _ => keepAt_refl), d, hd.agree (fun t ht => updO_ne (fun e => ap.c t e ht)) (fun _ _ _ _ => keepAt_refl), ?_⟩
    show Seq P G all ⟨updO (updO s.env _ dk) _ d, s.heap⟩ (A ++ B) s'
    rw [updO_comm (fun t h1 h2 => ap.b t h2 h1)]
    exact h

theorem Seq.heap : ∀ {js : List Nat} {s s' : DS}, Seq P G all s js s' → s'.heap = s.heap
  | [], s, s', h => by cases h; rfl
  | j :: js, s, s', ⟨d, _, h⟩ => by have := Seq.heap h; exact this

theorem Seq.env : ∀ {js : List Nat} {s s' : DS}, Seq P G all s js s' → ∀ t, (∀ j ∈ js, dstAt all j ≠ some t) → s'.env t = s.env t
  | [], s, s', h, t, _ => by cases h; rfl
  | j :: js, s, s', ⟨d, _, h⟩, t, ht => by
    rw [Seq.env h t fun i hi => ht i (by simp [hi])]
    exact updO_ne (ht j (by simp))

/-- The sequence behind another operation's effect. -/
theorem Seq.shift {k : Option Nat} {v : DVal} {h : DHeap} : ∀ {js : List Nat} {s s' : DS}, Seq P G all s js s' →
    (∀ j ∈ js, ∀ t, k = some t → t ∉ looks all j) → (∀ j ∈ js, ∀ t, dstAt all j = some t → k ≠ some t) →
    (∀ A j B, js = A ++ j :: B → ∀ o a, operAt all j = some o → lookOp o.op = some a → (∀ t, a = .tmp t → ∀ m ∈ j :: B, dstAt all m ≠ some t) ∧ keepAt s.heap h (dev G s'.env a)) →
    Seq P G all ⟨updO s.env k v, h⟩ js ⟨updO s'.env k v, h⟩
  | [], s, s', hs, _, _, _ => by cases hs; rfl
  | j :: js, s, s', ⟨d, hd, hs⟩, h1, h2, h3 => by
    refine ⟨d, hd.agree (fun t ht => updO_ne fun e => h1 j (by simp) t e ht) (fun o a ho ha => ?_), ?_⟩
    · obtain ⟨g1, g2⟩ := h3 [] j js rfl o a ho ha
      have : dev G s'.env a = dev G s.env a := by
        cases a with
        | tmp t =>
          have := Seq.env hs t fun i hi => g1 t rfl i (by simp [hi])
          simp only [dev]
          rw [this]
          exact updO_ne (g1 t rfl j (by simp))
        | _ => rfl
      rw [← this]; exact g2
    · have hs' := Seq.shift (k := k) (v := v) (h := h) hs (fun i hi => h1 i (by simp [hi])) (fun i hi => h2 i (by simp [hi])) (fun A i B e => h3 (j :: A) i B (by rw [e]; rfl))
      show Seq P G all ⟨updO (updO s.env k v) (dstAt all j) d, h⟩ js _
      rw [updO_comm fun t e1 e2 => h2 j (by simp) t e2 e1]
      exact hs'

end
end Go.Dl
