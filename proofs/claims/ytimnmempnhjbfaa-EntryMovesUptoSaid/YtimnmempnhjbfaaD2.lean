/-
  THE DATA LEVEL, PART 2: what a plan ends with, every order that is drawn ends with.
-/
import Derived.Test.YtimnmempnhjbfaaD1
set_option linter.unusedSimpArgs false
set_option linter.unusedVariables false
namespace Go.Dl
open Go

section
variable {P : Program} {G : Nat → DVal} {N : Fr} {all : List Oper} {Q : DExit → DS → Prop} {s0 : DS} {w0 : World}

theorem wpOp_sound {F : Fence} {n : Nat} (hF : FOk F) {k : Nat} {o : Oper} {c : DS} {a : Act} {w : World} {K : DK} (hall : all.all (operOk N) = true) (hk : operAt all k = some o) (hS : Sim G N c a w) (hE : Ext s0.heap w0 c.heap w)
    (h : dAt P G all K Q c (some o)) : wpOpIn F n P all.toArray (ExitS G N Q s0 w0) k (NextS G N K c w) a w := by
  have hko : all.toArray[k]? = some o := by rw [operAt_eq] at hk; simpa using hk
  have hok : operOk N o = true := by
    rw [operAt_eq] at hk
    exact List.all_eq_true.1 hall o (List.mem_of_getElem? hk)
  unfold wpOpIn
  simp only [hko]
  have skip : dput o.dst dundef K c → NextS G N K c w (a.put o.dst undef) w := fun hp =>
    ⟨⟨updO c.env o.dst dundef, c.heap⟩, hp, hS.put (operOk_dst hok) (rel_dundef w c.heap), Ext.refl _ _⟩
  simp only [dAt] at h
  unfold dOne at h
  cases hg : o.guard with
  | none =>
    rw [hg] at h
    rw [if_pos (by simp [Region.wanted, hg])]
    exact dop_soundIn hF hok hS hE h
  | some jb =>
    obtain ⟨j, b⟩ := jb
    rw [hg] at h
    simp only at h
    cases hj : dstOf all j with
    | none => rw [hj] at h; exact h.elim
    | some g =>
      rw [hj] at h
      simp only [dGuardKO] at h
      have hjo : (all[j]?).bind (·.dst) = some g := by rw [← dstOf_eq]; exact hj
      obtain ⟨oj, hoj, hdj⟩ := Option.bind_eq_some_iff.1 hjo
      have hmem : oj ∈ all := List.mem_of_getElem? hoj
      have hgN : g < N := by
        have := List.all_eq_true.1 hall oj hmem
        have := operOk_dst this
        rw [hdj] at this
        simpa [dstOk] using this
      have hrel := hS.tmps g hgN
      have hy : ∀ v, c.env g = .bool v → yielded all.toArray a.tmps j = some v := by
        intro v hv
        rw [hv] at hrel
        simp only [Rel] at hrel
        have h1 : a.tmps[g]? = some (.bool v) := by
          rw [Array.getD_eq_getD_getElem?] at hrel
          cases hq : a.tmps[g]? with
          | none =>
            have := hS.size
            rw [Array.getElem?_eq_none_iff] at hq
            omega
          | some z => rw [hq] at hrel; simpa using hrel
        simp [yielded, hoj, hdj, h1]
      cases hv : c.env g <;> rw [hv] at h <;> (try (cases b <;> exact h.elim))
      rename_i v
      have hy' := hy v hv
      cases b <;> cases v <;> simp only [dGuardK] at h
      · rw [if_pos (by simp [Region.wanted, hg, hy'])]; exact dop_soundIn hF hok hS hE h
      · rw [if_neg (by simp [Region.wanted, hg, hy'])]; exact ⟨fun f _ => hF.fn f, skip h⟩
      · rw [if_neg (by simp [Region.wanted, hg, hy'])]; exact ⟨fun f _ => hF.fn f, skip h⟩
      · rw [if_pos (by simp [Region.wanted, hg, hy'])]; exact dop_soundIn hF hok hS hE h

/-- Where a drawn order stands, and where the plan does. -/
structure Inv (P : Program) (G : Nat → DVal) (N : Fr) (all : List Oper) (Q : DExit → DS → Prop) (s0 : DS) (w0 : World)
    (T js : List Nat) (p : Plan) (c s : DS) (a : Act) (w : World) (listed : Array Bool) : Prop where
  sim : Sim G N c a w
  ext : Ext s0.heap w0 c.heap w
  seq : Seq P G all c js s
  plan : dplan P G all Q p s
  ok : planOk all p T = true
  cov : cover all T p = true
  size : listed.size = all.length
  iff : ∀ i, i < all.length → (listed.getD i true = true ↔ i ∈ T ∧ i ∉ js)
  sub : ∀ i ∈ js, i ∈ T ∧ i < all.length
  tlt : ∀ i ∈ T, i < all.length
  nodup : js.Nodup
  eager : ∀ j ∈ js, eagerB all j = true
  pair : js.Pairwise fun j k => (depB all k j = true ∨ apartB all j k = true) ∧ depB all j k = false
  out : ∀ j ∈ js, ∀ k, k < all.length → k ∉ T → depB all k j = true ∨ apartB all j k = true
  deps : ∀ j ∈ js, ∀ e, depB all j e = true → e ∈ T ∧ e ≠ j

theorem operAt_lt {i : Nat} (h : i < all.length) : ∃ o, operAt all i = some o := by
  rw [operAt_eq]; exact ⟨all[i], by simp [h]⟩

theorem depsIn_spec {k : Nat} {T : List Nat} (hk : k < all.length) : depsIn all k T = true ↔ ∀ e, depB all k e = true → e ∈ T := by
  obtain ⟨o, ho⟩ := operAt_lt hk
  unfold depsIn depB
  rw [ho]
  simp only [Array.all_eq_true_iff_forall_mem, Bool.or_eq_true, Bool.not_eq_true', List.contains_iff_mem]
  constructor
  · intro h e he
    obtain ⟨x, hx, hb⟩ := Array.any_eq_true'.1 he
    simp only [Bool.and_eq_true, beq_iff_eq] at hb
    rcases h x hx with h1 | h1
    · rw [hb.1] at h1; cases h1
    · rw [← hb.2]; exact h1
  · intro h x hx
    by_cases hb : Region.binds .any x = true
    · exact .inr (h x.on (Array.any_eq_true'.2 ⟨x, hx, by simp [hb]⟩))
    · exact .inl (by simpa using hb)

theorem ready_spec {listed : Array Bool} {k : Nat} (hs : listed.size = all.length) : k ∈ Region.ready .any all.toArray listed ↔
    k < all.length ∧ listed.getD k true = false ∧ ∀ e, depB all k e = true → listed.getD e false = true := by
  rw [mem_ready]
  constructor
  · rintro ⟨h0, o, ho, h⟩
    have ho' : all[k]? = some o := by simpa using ho
    have hlt : k < all.length := (List.getElem?_eq_some_iff.1 ho').1
    refine ⟨hlt, h0, fun e he => ?_⟩
    unfold depB at he
    rw [operAt_eq, ho'] at he
    obtain ⟨x, hx, hb⟩ := Array.any_eq_true'.1 he
    simp only [Bool.and_eq_true, beq_iff_eq] at hb
    rw [← hb.2]; exact h x hx hb.1
  · rintro ⟨hlt, h0, h⟩
    refine ⟨h0, all[k], by simp [hlt], fun x hx hb => h x.on ?_⟩
    unfold depB
    rw [operAt_eq, List.getElem?_eq_getElem hlt]
    exact Array.any_eq_true'.2 ⟨x, hx, by simp [hb]⟩

theorem getD_false_true {listed : Array Bool} {e : Nat} (h : e < listed.size) : listed.getD e false = listed.getD e true := by
  simp [h]

theorem Inv.advance {T js : List Nat} {i : Nat} {p : Plan} {c s : DS} {a : Act} {w : World} {listed : Array Bool} (h : Inv P G N all Q s0 w0 T js (.take i p) c s a w listed) :
    ∃ s', Inv P G N all Q s0 w0 (i :: T) (js ++ [i]) p c s' a w listed := by
  have hok := h.ok
  simp only [planOk, Bool.and_eq_true, decide_eq_true_eq, Bool.not_eq_true', List.all_eq_true, List.mem_range, Bool.or_eq_true, List.contains_iff_mem, beq_iff_eq] at hok
  obtain ⟨⟨⟨⟨⟨⟨hi, hT⟩, he⟩, hd⟩, ha⟩, hc⟩, hp⟩ := hok
  have hT' : i ∉ T := by intro hm; rw [List.contains_iff_mem.2 hm] at hT; cases hT
  rw [depsIn_spec hi] at hd
  obtain ⟨o, ho⟩ := operAt_lt hi
  have hpl := h.plan
  simp only [dplan, ho] at hpl
  have heo : eagerOp o.op = true := by unfold eagerB at he; rw [ho] at he; exact he
  have hst : ∃ d, EVal P G all i s d ∧ dplan P G all Q p ⟨updO s.env (dstAt all i) d, s.heap⟩ := by
    have hdst : dstAt all i = o.dst := by simp [dstAt, ho]
    rw [hdst]
    rcases dAt_wanted.1 hpl with ⟨hw, hdop⟩ | ⟨hw, hput⟩
    · obtain ⟨d, hd1, hd2⟩ := eager_spec o.op heo hdop
      exact ⟨d, ⟨o, ho, heo, .inl ⟨hw, fun K Q hK => hd2 Q K s (fun _ _ => rfl) (fun _ _ _ _ _ => rfl) hK⟩⟩, hd1⟩
    · exact ⟨dundef, ⟨o, ho, heo, .inr ⟨hw, rfl⟩⟩, hput⟩
  obtain ⟨d, hev, hpl'⟩ := hst
  have seqApp : ∀ (js : List Nat) (c : DS), Seq P G all c js s → Seq P G all c (js ++ [i]) ⟨updO s.env (dstAt all i) d, s.heap⟩ := by
    intro js
    induction js with
    | nil => intro c hc; cases hc; exact ⟨d, hev, rfl⟩
    | cons j js ih => intro c hc; obtain ⟨d', h1, h2⟩ := hc; exact ⟨d', h1, ih _ h2⟩
  refine ⟨⟨updO s.env (dstAt all i) d, s.heap⟩, ?_⟩
  exact {
    sim := h.sim, ext := h.ext, seq := seqApp js c h.seq, plan := hpl', ok := hp, cov := hc, size := h.size
    iff := fun k hk => by
      rw [h.iff k hk]
      simp only [List.mem_cons, List.mem_append, List.not_mem_nil, or_false, not_or]
      constructor
      · rintro ⟨h1, h2⟩
        exact ⟨.inr h1, h2, fun e => hT' (e ▸ h1)⟩
      · rintro ⟨h1, h2, h3⟩
        exact ⟨h1.resolve_left h3, h2⟩
    sub := fun k hk => by
      simp only [List.mem_append, List.mem_cons, List.not_mem_nil, or_false] at hk ⊢
      rcases hk with hk | rfl
      · exact ⟨.inr (h.sub k hk).1, (h.sub k hk).2⟩
      · exact ⟨.inl rfl, hi⟩
    tlt := fun k hk => by
      simp only [List.mem_cons] at hk
      rcases hk with rfl | hk
      · exact hi
      · exact h.tlt k hk
    nodup := by
      rw [List.nodup_append]
      refine ⟨h.nodup, by simp, ?_⟩
      intro x hx y hy e
      simp only [List.mem_cons, List.not_mem_nil, or_false] at hy
      subst hy; subst e
      exact hT' (h.sub x hx).1
    eager := fun k hk => by
      simp only [List.mem_append, List.mem_cons, List.not_mem_nil, or_false] at hk
      rcases hk with hk | rfl
      · exact h.eager k hk
      · exact he
    pair := by
      rw [List.pairwise_append]
      refine ⟨h.pair, by simp, ?_⟩
      intro j hj k hk
      simp only [List.mem_cons, List.not_mem_nil, or_false] at hk
      subst hk
      refine ⟨h.out j hj k hi hT', ?_⟩
      cases hdep : depB all j k with
      | false => rfl
      | true => exact (hT' (h.deps j hj k hdep).1).elim
    out := fun j hj k hk hkT => by
      simp only [List.mem_append, List.mem_cons, List.not_mem_nil, or_false, not_or] at hj hkT
      rcases hj with hj | rfl
      · exact h.out j hj k hk hkT.2
      · rcases ha k hk with ((h1 | h1) | h1) | h1
        · exact (hkT.2 h1).elim
        · exact (hkT.1 h1).elim
        · exact .inl h1
        · exact .inr h1
    deps := fun j hj e hde => by
      simp only [List.mem_append, List.mem_cons, List.not_mem_nil, or_false] at hj ⊢
      rcases hj with hj | rfl
      · exact ⟨.inr (h.deps j hj e hde).1, (h.deps j hj e hde).2⟩
      · have := hd e hde
        exact ⟨.inr this, fun hh => hT' (hh ▸ this)⟩ }

def notTake : Plan → Prop
  | .take _ _ => False
  | _ => True

theorem Inv.normal : ∀ {p : Plan} {T js : List Nat} {c s : DS} {a : Act} {w : World} {listed : Array Bool}, Inv P G N all Q s0 w0 T js p c s a w listed →
    ∃ T' js' p' s', Inv P G N all Q s0 w0 T' js' p' c s' a w listed ∧ notTake p'
  | .take i p, T, js, c, s, a, w, listed, h => by
    obtain ⟨s', h'⟩ := h.advance
    exact h'.normal
  | .done, T, js, c, s, a, w, listed, h => ⟨T, js, _, s, h, trivial⟩
  | .go i ls p, T, js, c, s, a, w, listed, h => ⟨T, js, _, s, h, trivial⟩
  | .alt p q, T, js, c, s, a, w, listed, h => ⟨T, js, _, s, h, trivial⟩

/-- All taken, or something more may come. -/
theorem plan_more : ∀ (p : Plan) (T : List Nat) (s : DS), planOk all p T = true → dplan P G all Q p s →
    ((∀ i, i < all.length → i ∈ T) ∧ Q .normal s) ∨ ∃ i, i < all.length ∧ i ∉ T ∧ ∀ e, depB all i e = true → e ∈ T
  | .done, T, s, hok, h => by
    simp only [planOk, List.all_eq_true, List.mem_range, List.contains_iff_mem] at hok
    exact .inl ⟨hok, h⟩
  | .take i p, T, s, hok, h => by
    simp only [planOk, Bool.and_eq_true, decide_eq_true_eq, Bool.not_eq_true'] at hok
    obtain ⟨⟨⟨⟨⟨⟨hi, hT⟩, he⟩, hd⟩, _⟩, _⟩, _⟩ := hok
    exact .inr ⟨i, hi, (fun hm => by rw [List.contains_iff_mem.2 hm] at hT; cases hT), (depsIn_spec hi).1 hd⟩
  | .go i ls p, T, s, hok, h => by
    simp only [planOk, Bool.and_eq_true, decide_eq_true_eq, Bool.not_eq_true'] at hok
    obtain ⟨⟨⟨⟨⟨hi, hT⟩, hd⟩, _⟩, _⟩, _⟩ := hok
    exact .inr ⟨i, hi, (fun hm => by rw [List.contains_iff_mem.2 hm] at hT; cases hT), (depsIn_spec hi).1 hd⟩
  | .alt p q, T, s, hok, h => by
    simp only [planOk, Bool.and_eq_true] at hok
    exact plan_more p T s hok.1 h.1

theorem plan_first : ∀ (p : Plan) (T : List Nat) (s : DS) (k : Nat), planOk all p T = true → dplan P G all Q p s → k ∈ firsts p →
    ∃ ls p', planOk all (.go k ls p') T = true ∧ dplan P G all Q (.go k ls p') s
  | .done, T, s, k, _, _, hk => by simp [firsts] at hk
  | .take i p, T, s, k, _, _, hk => by simp [firsts] at hk
  | .go i ls p, T, s, k, hok, h, hk => by
    simp only [firsts, List.mem_cons, List.not_mem_nil, or_false] at hk
    subst hk
    exact ⟨ls, p, hok, h⟩
  | .alt p q, T, s, k, hok, h, hk => by
    simp only [planOk, Bool.and_eq_true] at hok
    simp only [firsts, List.mem_append] at hk
    rcases hk with hk | hk
    · exact plan_first p T s k hok.1 h.1 hk
    · exact plan_first q T s k hok.2 h.2 hk

theorem cover_spec {p : Plan} {T : List Nat} (hc : cover all T p = true) (hok : planOk all p T = true) (hn : notTake p) {k : Nat} (hk : k < all.length) (hT : k ∉ T) (hd : ∀ e, depB all k e = true → e ∈ T) : k ∈ firsts p := by
  have gen : ((List.range all.length).all fun k => T.contains k || (firsts p).contains k || !depsIn all k T) = true → k ∈ firsts p := by
    intro h
    simp only [List.all_eq_true, List.mem_range, Bool.or_eq_true, List.contains_iff_mem, Bool.not_eq_true'] at h
    rcases h k hk with (h1 | h1) | h1
    · exact (hT h1).elim
    · exact h1
    · rw [(depsIn_spec hk).2 hd] at h1; cases h1
  cases p with
  | done =>
    simp only [planOk, List.all_eq_true, List.mem_range, List.contains_iff_mem] at hok
    exact (hT (hok k hk)).elim
  | take i p => exact hn.elim
  | go i ls p => exact gen hc
  | alt p q => exact gen hc

theorem keepL_mem {s : DS} {H' : DHeap} : ∀ {ls : List Nat}, keepL G all s H' ls → ∀ l ∈ ls, keepO G s H' (lookAtO (operAt all l))
  | [], _, l, hl => by simp at hl
  | x :: ls, h, l, hl => by
    simp only [List.mem_cons] at hl
    rcases hl with rfl | hl
    · exact h.1
    · exact keepL_mem h.2 l hl

theorem Inv.sound {F : Fence} {n : Nat} (hF : FOk F) (hall : all.all (operOk N) = true) (hQ : ∀ v env env' h, Q (.panic v) ⟨env, h⟩ → Q (.panic v) ⟨env', h⟩) : ∀ (fuel : Nat) (U T js : List Nat) (p : Plan) (c s : DS) (a : Act) (w : World) (listed : Array Bool),
    Inv P G N all Q s0 w0 T js p c s a w listed → U.length ≤ fuel → (∀ i, i < all.length → listed.getD i true = false → i ∈ U) →
    wpAnyIn F n P .any all.toArray (ExitS G N Q s0 w0) fuel listed a w := by
  intro fuel
  induction fuel with
  | zero =>
    intro U T js p c s a w listed h hU hUm
    have hnil : U = [] := List.eq_nil_of_length_eq_zero (Nat.le_zero.1 hU)
    subst hnil
    have hall1 : ∀ i, i < all.length → listed.getD i true = true := by
      intro i hi
      cases hl : listed.getD i true with
      | true => rfl
      | false => exact absurd (hUm i hi hl) (by simp)
    have hjs : js = [] := by
      cases js with
      | nil => rfl
      | cons j js =>
        have hs := h.sub j (by simp)
        exact absurd (by simp) ((h.iff j hs.2).1 (hall1 j hs.2)).2
    subst hjs
    have hsc := h.seq
    simp only [Seq] at hsc
    refine ⟨?_, ?_⟩
    · rw [List.eq_nil_iff_forall_not_mem]
      intro k hk
      rw [ready_spec h.size] at hk
      rw [hall1 k hk.1] at hk
      cases hk.2.1
    · rcases plan_more p T s h.ok h.plan with ⟨_, hq⟩ | ⟨i, hi, hiT, _⟩
      · subst hsc; exact ⟨.normal, s, hq, .normal, h.sim, h.ext⟩
      · exact absurd ((h.iff i hi).1 (hall1 i hi)).1 hiT
  | succ fuel ih =>
    intro U T js p c s a w listed h0 hU hUm
    obtain ⟨T, js, p, s, h, hnt⟩ := h0.normal
    have inList : ∀ e, listed.getD e false = true → e ∈ T ∧ e ∉ js := by
      intro e he
      have hlt : e < listed.size := by
        rcases Nat.lt_or_ge e listed.size with h' | h'
        · exact h'
        · simp [Array.getElem?_eq_none h'] at he
      have := he
      rw [getD_false_true hlt] at this
      exact (h.iff e (by rw [← h.size]; exact hlt)).1 this
    refine ⟨fun hr => ?_, fun k hk => ?_⟩
    · -- nothing may come up: all have
      have hno : ∀ k, k ∉ Region.ready .any all.toArray listed := by rw [hr]; simp
      have toL : ∀ e, e ∈ T → e ∉ js → e < all.length → listed.getD e false = true := by
        intro e h1 h2 h3
        rw [getD_false_true (by rw [h.size]; exact h3)]
        exact (h.iff e h3).2 ⟨h1, h2⟩
      have unl : ∀ i, i < all.length → ¬ (i ∈ T ∧ i ∉ js) → listed.getD i true = false := by
        intro i hi hn
        cases hl : listed.getD i true with
        | false => rfl
        | true => exact (hn ((h.iff i hi).1 hl)).elim
      have hjs : js = [] := by
        cases js with
        | nil => rfl
        | cons j js =>
          refine (hno j ((ready_spec h.size).2 ⟨(h.sub j (by simp)).2, unl j (h.sub j (by simp)).2 (fun hh => hh.2 (by simp)), fun e he => ?_⟩)).elim
          obtain ⟨g1, g2⟩ := h.deps j (by simp) e he
          refine toL e g1 (fun hm => ?_) (h.tlt e g1)
          simp only [List.mem_cons] at hm
          rcases hm with hm | hm
          · exact g2 hm
          · have := ((List.pairwise_cons.1 h.pair).1 e hm).2
            rw [he] at this; cases this
      subst hjs
      have hsc := h.seq
      simp only [Seq] at hsc
      rcases plan_more p T s h.ok h.plan with ⟨_, hq⟩ | ⟨i, hi, hiT, hd⟩
      · subst hsc; exact ⟨.normal, s, hq, .normal, h.sim, h.ext⟩
      · exact (hno i ((ready_spec h.size).2 ⟨hi, unl i hi (fun hh => hiT hh.1), fun e he => toL e (hd e he) (by simp) (h.tlt e (hd e he))⟩)).elim
    · rw [ready_spec h.size] at hk
      obtain ⟨hkn, hun, hdep⟩ := hk
      obtain ⟨o, ho⟩ := operAt_lt hkn
      have hdepT : ∀ e, depB all k e = true → e ∈ T ∧ e ∉ js := fun e he => inList e (hdep e he)
      have hU' : k ∈ U := hUm k hkn hun
      have hUl : (U.erase k).length ≤ fuel := by
        rw [List.length_erase_of_mem hU']; omega
      have hset : ∀ i, i ≠ k → (listed.setIfInBounds k true).getD i true = listed.getD i true := fun i hi => getD_set_ne true (Ne.symm hi)
      have hsetk : (listed.setIfInBounds k true).getD k true = true := by
        have : k < listed.size := by rw [h.size]; exact hkn
        simp [this]
      have hUm' : ∀ i, i < all.length → (listed.setIfInBounds k true).getD i true = false → i ∈ U.erase k := by
        intro i hi hl
        by_cases hik : i = k
        · subst hik; rw [hsetk] at hl; cases hl
        · rw [hset i hik] at hl
          exact (List.mem_erase_of_ne hik).2 (hUm i hi hl)
      by_cases hkj : k ∈ js
      · -- it was taken before
        obtain ⟨A, B, rfl⟩ := List.append_of_mem hkj
        have hpw := List.pairwise_append.1 h.pair
        have hnd := h.nodup
        rw [List.nodup_append] at hnd
        have apA : ∀ j ∈ A, Apart all j k := by
          intro j hj
          have hjlt := (h.sub j (by simp [hj])).2
          obtain ⟨x, hx⟩ := operAt_lt hjlt
          rcases (hpw.2.2 j hj k (by simp)).1 with hd | ha
          · exact absurd (by simp [hj]) (hdepT j hd).2
          · exact apartB_spec hx ho ha
        obtain ⟨d, hev, hrest⟩ := Seq.front apA h.seq
        obtain ⟨o', ho', heo, hev⟩ := hev
        rw [ho] at ho'; cases ho'
        have hdst : dstAt all k = o.dst := by simp [dstAt, ho]
        have hat : dAt P G all (fun s1 => s1 = ⟨updO c.env o.dst d, c.heap⟩) Q c (some o) := by
          rw [dAt_wanted]
          rcases hev with ⟨hw, hv⟩ | ⟨hw, rfl⟩
          · exact .inl ⟨hw, hv _ _ rfl⟩
          · exact .inr ⟨hw, rfl⟩
        refine wpOpIn_mono ?_ (wpOp_sound hF hall ho h.sim h.ext hat)
        rintro a' w' ⟨s1, rfl, hS', hE'⟩
        refine ih (U.erase k) T (A ++ B) p ⟨updO c.env o.dst d, c.heap⟩ s a' w' _ ?_ hUl hUm'
        have memE : ∀ i, i ∈ A ++ B → i ∈ A ++ k :: B := fun i hi => by
          simp only [List.mem_append, List.mem_cons] at hi ⊢
          rcases hi with hi | hi
          · exact .inl hi
          · exact .inr (.inr hi)
        have subl : (A ++ B).Sublist (A ++ k :: B) := List.Sublist.append (List.Sublist.refl A) (List.sublist_cons_self k B)
        have kno : k ∉ A ++ B := by
          intro hm
          have := h.nodup
          rw [(List.perm_middle (a := k) (l₁ := A) (l₂ := B)).nodup_iff] at this
          exact (List.nodup_cons.1 this).1 hm
        exact {
          sim := hS', ext := h.ext.trans hE', seq := by rw [hdst] at hrest; exact hrest, plan := h.plan, ok := h.ok, cov := h.cov
          size := by simp [h.size]
          iff := fun i hi => by
            by_cases hik : i = k
            · subst hik
              rw [hsetk]
              exact ⟨fun _ => ⟨(h.sub i (by simp)).1, kno⟩, fun _ => rfl⟩
            · rw [hset i hik, h.iff i hi]
              simp only [List.mem_append, List.mem_cons, not_or]
              constructor
              · rintro ⟨g1, g2, g3⟩; exact ⟨g1, g2, g3.2⟩
              · rintro ⟨g1, g2, g3⟩; exact ⟨g1, g2, hik, g3⟩
          sub := fun i hi => h.sub i (memE i hi)
          tlt := h.tlt
          nodup := h.nodup.sublist subl
          eager := fun i hi => h.eager i (memE i hi)
          pair := h.pair.sublist subl
          out := fun i hi => h.out i (memE i hi)
          deps := fun i hi => h.deps i (memE i hi) }
      · -- it is the plan's next
        have hkT : k ∉ T := by
          intro hm
          have := (h.iff k hkn).2 ⟨hm, hkj⟩
          rw [hun] at this; cases this
        have hf := cover_spec h.cov h.ok hnt hkn hkT fun e he => (hdepT e he).1
        obtain ⟨ls, p', hok, hpl⟩ := plan_first p T s k h.ok h.plan hf
        simp only [planOk, Bool.and_eq_true, decide_eq_true_eq, Bool.not_eq_true'] at hok
        obtain ⟨⟨⟨⟨⟨_, _⟩, hd⟩, hlk⟩, hc'⟩, hp'⟩ := hok
        simp only [dplan, ho] at hpl
        have apJ : ∀ j ∈ js, Apart all j k := by
          intro j hj
          obtain ⟨x, hx⟩ := operAt_lt (h.sub j hj).2
          rcases h.out j hj k hkn hkT with hd | ha
          · exact absurd hj (hdepT j hd).2
          · exact apartB_spec hx ho ha
        have hdst : dstAt all k = o.dst := by simp [dstAt, ho]
        have hlooks : looks all k = o.looksAt all.toArray := by simp [looks, ho]
        have agree : ∀ t ∈ o.looksAt all.toArray, c.env t = s.env t := by
          intro t ht
          refine (Seq.env h.seq t fun j hj e => ?_).symm
          exact (apJ j hj).a t e (by rw [hlooks]; exact ht)
        have shift : ∀ d H', KeepK G all ls s (dplan P G all Q p') ⟨updO s.env o.dst d, H'⟩ →
            (∃ s1, dplan P G all Q p' s1 ∧ Seq P G all ⟨updO c.env o.dst d, H'⟩ js s1) := by
          intro d H' hK
          refine ⟨_, hK.2, Seq.shift h.seq (fun j hj t e => ?_) (fun j hj t e e2 => ?_) ?_⟩
          · exact (apJ j hj).c t (by rw [hdst]; exact e)
          · exact (apJ j hj).b t e (by rw [hdst]; exact e2)
          · intro A j B e oj a hoj hla
            have hjm : j ∈ js := by rw [e]; simp
            have hjT := (h.sub j hjm).1
            unfold looksOk at hlk
            rw [List.all_eq_true] at hlk
            have hl := hlk j hjT
            simp only [lookAtO, hoj, hla, Bool.or_eq_true, Bool.and_eq_true, List.contains_iff_mem] at hl
            rcases hl with hl | ⟨hl1, hl2⟩
            · exact absurd hjm (hdepT j hl).2
            · refine ⟨fun t ht m hm hdm => ?_, ?_⟩
              · subst ht
                simp only [slotKept, List.all_eq_true, Bool.or_eq_true, bne_iff_ne] at hl2
                have hmj : m ∈ js := by rw [e]; exact List.mem_append_right _ hm
                rcases hl2 m (h.sub m hmj).1 with g | g
                · exact g hdm
                · simp only [List.mem_cons] at hm
                  rcases hm with rfl | hm
                  · exact (h.deps m hmj m g).2 rfl
                  · have hp := h.pair
                    rw [e, List.pairwise_append] at hp
                    have := (List.pairwise_cons.1 hp.2.1).1 m hm
                    rw [g] at this
                    cases this.2
              · have hkl := keepL_mem hK.1 j hl1
                simp only [lookAtO, hoj, hla, keepO] at hkl
                rw [← Seq.heap h.seq]
                exact hkl
        have hat : dAt P G all (fun c1 => ∃ s1, dplan P G all Q p' s1 ∧ Seq P G all c1 js s1) Q c (some o) := by
          rw [dAt_wanted] at hpl ⊢
          rw [looks_wanted agree]
          have hheap := Seq.heap h.seq
          rcases hpl with ⟨hw, hop⟩ | ⟨hw, hput⟩
          · refine .inl ⟨hw, dop_congr o.op (looks_dev (all := all) agree) hheap.symm (fun d H' hK => shift d H' hK) (fun v H' hq => hQ v _ _ H' hq) hop⟩
          · refine .inr ⟨hw, ?_⟩
            unfold dput at hput ⊢
            rw [← hheap]
            exact shift _ _ hput
        refine wpOpIn_mono ?_ (wpOp_sound hF hall ho h.sim h.ext hat)
        rintro a' w' ⟨c1, ⟨s1, hp1, hseq⟩, hS', hE'⟩
        refine ih (U.erase k) (k :: T) js p' c1 s1 a' w' _ ?_ hUl hUm'
        exact {
          sim := hS', ext := h.ext.trans hE', seq := hseq, plan := hp1, ok := hp', cov := hc'
          size := by simp [h.size]
          iff := fun i hi => by
            by_cases hik : i = k
            · subst hik
              rw [hsetk]
              exact ⟨fun _ => ⟨by simp, hkj⟩, fun _ => rfl⟩
            · rw [hset i hik, h.iff i hi]
              simp [hik]
          sub := fun i hi => ⟨by simp [(h.sub i hi).1], (h.sub i hi).2⟩
          tlt := fun i hi => by
            simp only [List.mem_cons] at hi
            rcases hi with rfl | hi
            · exact hkn
            · exact h.tlt i hi
          nodup := h.nodup
          eager := h.eager
          pair := h.pair
          out := fun i hi m hm hmT => h.out i hi m hm (fun hh => hmT (by simp [hh]))
          deps := fun i hi e he => ⟨by simp [(h.deps i hi e he).1], (h.deps i hi e he).2⟩ }

/-- **A REGION WHOSE ORDER IS DRAWN**, by a plan. -/
theorem dwp_any {id : Nat} {ops : Array Oper} {s : DS} (hm : P.follows .mixedOrders = true) (p : Plan)
    (hp : (ops.toList.all (operOk N) && cover ops.toList [] p && planOk ops.toList p []) = true) (h : dplan P G ops.toList (QP Q) p s) : DWp P G N (.region id ops true) Q s := by
  intro F n B hF a w hS
  simp only [Bool.and_eq_true] at hp
  obtain ⟨⟨hall, hc⟩, hok⟩ := hp
  have hE : Ext s.heap w s.heap { w with drawn := w.drawn + 1 } := ⟨rfl, rfl, rfl, Nat.le_refl _, fun _ _ _ => rfl, fun _ h => .inl h, fun _ _ => rfl, fun _ => rfl⟩
  have hSH : SimHeap { w with drawn := w.drawn + 1 } s.heap := fun r o hr => (hS.heap r o hr).lasts hE.lasts
  have hS' : Sim G ⟨N.n, B⟩ s a { w with drawn := w.drawn + 1 } := hS.ext hE hSH
  have key := Inv.sound (n := n) hF (P := P) (G := G) (N := ⟨N.n, B⟩) (all := ops.toList) (Q := QP Q) (s0 := s) (w0 := w) hall
    (fun v env env' h hq env'' => hq env'') ops.toList.length (List.range ops.toList.length) [] [] p s s a { w with drawn := w.drawn + 1 } (Array.replicate ops.size false)
    { sim := hS', ext := hE, seq := rfl, plan := h, ok := hok, cov := hc, size := by simp
      iff := fun i hi => by
        have : i < ops.size := by simpa using hi
        simp [this]
      sub := by simp
      tlt := by simp
      nodup := by simp
      eager := by simp
      pair := by simp
      out := by simp
      deps := by simp } (by simp) (fun i hi _ => by simpa using hi)
  have e1 : ops.toList.toArray = ops := by simp
  have e2 : ops.toList.length = ops.size := by simp
  rw [e1, e2] at key
  refine wpIn_mono (wpIn_region_any hm key) ?_
  rintro e a' w' ⟨e', s', hq, hx, hS1, hE1⟩
  refine ⟨e', s', ?_, hx, hS1, hE1⟩
  cases hx with
  | normal => exact hq
  | panic d v hv => exact hq s'.env
  | exit => exact hq.elim
  | goto => exact hq.elim
  | ret => exact hq.elim

end
end Go.Dl
