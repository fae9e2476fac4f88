/- The data level and the contracts of the functions that are reached (part 4). -/
import Derived.Test.YtbgelenonjfajaaRows
import Derived.Test.YtbgelenonjfajaaLFc
set_option linter.unusedSimpArgs false
set_option linter.unusedVariables false
-- THE DATA LEVEL, PART 2: what a plan ends with, every order that is drawn ends with.
namespace Go.Dl
open Go

section
variable {P : Program} {G : Nat → DVal} {N : Fr} {all : List Oper} {Q : DExit → DS → Prop} {s0 : DS} {w0 : World}

theorem wpOp_sound {F : Fence} {n : Nat} (hF : FOk F) {k : Nat} {o : Oper} {c : DS} {a : Act} {w : World} {K : DK} (hall : all.all (operOk N) = true) (hk : operAt all k = some o) (hS : Sim G N c a w) (hE : Ext s0.heap w0 c.heap w)
    (h : dAt P G all K Q c (some o)) : wpOpIn F n P all.toArray (ExitS G N Q s0 w0) k (NextS G N K c w) a w := by
  have hko : all.toArray[k]? = some o := by rw [operAt_eq] at hk; simpa using hk
  have hok : operOk N o = true := by
    rw [operAt_eq] at hk
    exact List.all_eq_true.1 hall o (List.mem_of_getElem? hk)
  unfold wpOpIn
  simp only [hko]
  have skip : dput o.dst dundef K c → NextS G N K c w (a.put o.dst undef) w := fun hp =>
    ⟨⟨updO c.env o.dst dundef, c.heap⟩, hp, hS.put (operOk_dst hok) (rel_dundef w c.heap), Ext.refl _ _⟩
  simp only [dAt] at h
  unfold dOne at h
  cases hg : o.guard with
  | none =>
    rw [hg] at h
    rw [if_pos (by simp [Region.wanted, hg])]
    exact dop_soundIn hF hok hS hE h
  | some jb =>
    obtain ⟨j, b⟩ := jb
    rw [hg] at h
    simp only at h
    cases hj : dstOf all j with
    | none => rw [hj] at h; exact h.elim
    | some g =>
      rw [hj] at h
      simp only [dGuardKO] at h
      have hjo : (all[j]?).bind (·.dst) = some g := by rw [← dstOf_eq]; exact hj
      obtain ⟨oj, hoj, hdj⟩ := Option.bind_eq_some_iff.1 hjo
      have hmem : oj ∈ all := List.mem_of_getElem? hoj
      have hgN : g < N := by
        have := List.all_eq_true.1 hall oj hmem
        have := operOk_dst this
        rw [hdj] at this
        simpa [dstOk] using this
      have hrel := hS.tmps g hgN
      have hy : ∀ v, c.env g = .bool v → yielded all.toArray a.tmps j = some v := by
        intro v hv
        rw [hv] at hrel
        simp only [Rel] at hrel
        have h1 : a.tmps[g]? = some (.bool v) := by
          rw [Array.getD_eq_getD_getElem?] at hrel
          cases hq : a.tmps[g]? with
          | none =>
            have := hS.size
            rw [Array.getElem?_eq_none_iff] at hq
            omega
          | some z => rw [hq] at hrel; simpa using hrel
        simp [yielded, hoj, hdj, h1]
      by_cases hun : c.env g = .tuple []
      · rw [hun] at h hrel
        simp only [Rel, RelL] at hrel
        obtain ⟨xs, hxs, hx0⟩ := hrel
        have hyn : yielded all.toArray a.tmps j = none := by
          have h2 : ∀ z, a.tmps[g]? = some z → z = .tuple xs := fun z hz => by
            rw [Array.getD_eq_getD_getElem?, hz] at hxs; simpa using hxs
          unfold yielded
          simp only [List.getElem?_toArray, hjo, Option.bind_some]
          cases hz : a.tmps[g]? with
          | none => rfl
          | some z => rw [h2 z hz]
        rw [if_neg (by simp [Region.wanted, hg, hyn])]
        exact ⟨fun f _ => hF.fn f, skip (by cases b <;> exact h)⟩
      cases hv : c.env g <;> rw [hv] at h <;> (try (cases b <;> exact h.elim))
      case tuple vs => cases vs with
        | nil => exact absurd hv hun
        | cons _ _ => cases b <;> exact h.elim
      rename_i v
      have hy' := hy v hv
      cases b <;> cases v <;> simp only [dGuardK] at h
      · rw [if_pos (by simp [Region.wanted, hg, hy'])]; exact dop_soundIn hF hok hS hE h
      · rw [if_neg (by simp [Region.wanted, hg, hy'])]; exact ⟨fun f _ => hF.fn f, skip h⟩
      · rw [if_neg (by simp [Region.wanted, hg, hy'])]; exact ⟨fun f _ => hF.fn f, skip h⟩
      · rw [if_pos (by simp [Region.wanted, hg, hy'])]; exact dop_soundIn hF hok hS hE h

/-- Where a drawn order stands, and where the plan does. -/
structure Inv (P : Program) (G : Nat → DVal) (N : Fr) (all : List Oper) (Q : DExit → DS → Prop) (s0 : DS) (w0 : World)
    (T js : List Nat) (p : Plan) (c s : DS) (a : Act) (w : World) (listed : Array Bool) : Prop where
  sim : Sim G N c a w
  ext : Ext s0.heap w0 c.heap w
  seq : Seq P G all c js s
  plan : dplan P G all Q p s
  ok : planOk all p T = true
  cov : cover all T p = true
  size : listed.size = all.length
  iff : ∀ i, i < all.length → (listed.getD i true = true ↔ i ∈ T ∧ i ∉ js)
  sub : ∀ i ∈ js, i ∈ T ∧ i < all.length
  tlt : ∀ i ∈ T, i < all.length
  nodup : js.Nodup
  eager : ∀ j ∈ js, eagerB all j = true
  pair : js.Pairwise fun j k => (depB all k j = true ∨ apartB all j k = true) ∧ depB all j k = false
  out : ∀ j ∈ js, ∀ k, k < all.length → k ∉ T → depB all k j = true ∨ apartB all j k = true
  deps : ∀ j ∈ js, ∀ e, depB all j e = true → e ∈ T ∧ e ≠ j
  clo : ∀ k, k < all.length → listed.getD k true = true → ∀ e, depB all k e = true → listed.getD e false = true

theorem operAt_lt {i : Nat} (h : i < all.length) : ∃ o, operAt all i = some o := by
  rw [operAt_eq]; exact ⟨all[i], by simp [h]⟩

theorem depsL_spec {k e : Nat} (h : e ∈ depsL all k) : depB all k e = true := by
  unfold depsL at h
  unfold depB
  split at h
  · rename_i o ho
    simp only [List.mem_map, List.mem_filter, Array.mem_toList_iff] at h
    obtain ⟨x, ⟨hx, hb⟩, rfl⟩ := h
    exact Array.any_eq_true'.2 ⟨x, hx, by simp [hb]⟩
  · cases h
theorem ancDown_spec {listed : Array Bool} {i : Nat} (hs : listed.size = all.length) (hi : ∀ e, depB all i e = true → listed.getD e false = true)
    (hc : ∀ k, k < all.length → listed.getD k true = true → ∀ e, depB all k e = true → listed.getD e false = true) : ∀ (n : Nat) (S : List Nat), (∀ m ∈ S, m = i ∨ listed.getD m false = true) → ∀ m ∈ ancDown all n S, m = i ∨ listed.getD m false = true
  | 0, S, h => h
  | k + 1, S, h => by
    rw [ancDown]
    refine ancDown_spec hs hi hc k _ ?_
    split
    · rename_i hk
      intro m hm
      rcases List.mem_append.1 hm with hm | hm
      · have hd := depsL_spec hm
        rcases h k (List.contains_iff_mem.1 hk) with rfl | hl
        · exact .inr (hi m hd)
        · have hlt : k < listed.size := by
            rcases Nat.lt_or_ge k listed.size with h' | h'
            · exact h'
            · simp [Array.getElem?_eq_none h'] at hl
          refine .inr (hc k (by rw [← hs]; exact hlt) ?_ m hd)
          simpa [hlt] using hl
      · exact h m hm
    · exact h
theorem depsIn_spec {k : Nat} {T : List Nat} (hk : k < all.length) : depsIn all k T = true ↔ ∀ e, depB all k e = true → e ∈ T := by
  obtain ⟨o, ho⟩ := operAt_lt hk
  unfold depsIn depB
  rw [ho]
  simp only [Array.all_eq_true_iff_forall_mem, Bool.or_eq_true, Bool.not_eq_true', List.contains_iff_mem]
  constructor
  · intro h e he
    obtain ⟨x, hx, hb⟩ := Array.any_eq_true'.1 he
    simp only [Bool.and_eq_true, beq_iff_eq] at hb
    rcases h x hx with h1 | h1
    · rw [hb.1] at h1; cases h1
    · rw [← hb.2]; exact h1
  · intro h x hx
    by_cases hb : Region.binds .any x = true
    · exact .inr (h x.on (Array.any_eq_true'.2 ⟨x, hx, by simp [hb]⟩))
    · exact .inl (by simpa using hb)

theorem ready_spec {listed : Array Bool} {k : Nat} (hs : listed.size = all.length) : k ∈ Region.ready .any all.toArray listed ↔
    k < all.length ∧ listed.getD k true = false ∧ ∀ e, depB all k e = true → listed.getD e false = true := by
  rw [mem_ready]
  constructor
  · rintro ⟨h0, o, ho, h⟩
    have ho' : all[k]? = some o := by simpa using ho
    have hlt : k < all.length := (List.getElem?_eq_some_iff.1 ho').1
    refine ⟨hlt, h0, fun e he => ?_⟩
    unfold depB at he
    rw [operAt_eq, ho'] at he
    obtain ⟨x, hx, hb⟩ := Array.any_eq_true'.1 he
    simp only [Bool.and_eq_true, beq_iff_eq] at hb
    rw [← hb.2]; exact h x hx hb.1
  · rintro ⟨hlt, h0, h⟩
    refine ⟨h0, all[k], by simp [hlt], fun x hx hb => h x.on ?_⟩
    unfold depB
    rw [operAt_eq, List.getElem?_eq_getElem hlt]
    exact Array.any_eq_true'.2 ⟨x, hx, by simp [hb]⟩

theorem getD_false_true {listed : Array Bool} {e : Nat} (h : e < listed.size) : listed.getD e false = listed.getD e true := by
  simp [h]

theorem Inv.advance {T js : List Nat} {i : Nat} {p : Plan} {c s : DS} {a : Act} {w : World} {listed : Array Bool} (h : Inv P G N all Q s0 w0 T js (.take i p) c s a w listed) :
    ∃ s', Inv P G N all Q s0 w0 (i :: T) (js ++ [i]) p c s' a w listed := by
  have hok := h.ok
  simp only [planOk, Bool.and_eq_true, decide_eq_true_eq, Bool.not_eq_true', List.all_eq_true, List.mem_range, Bool.or_eq_true, List.contains_iff_mem, beq_iff_eq] at hok
  obtain ⟨⟨⟨⟨⟨⟨hi, hT⟩, he⟩, hd⟩, ha⟩, hc⟩, hp⟩ := hok
  have hT' : i ∉ T := by intro hm; rw [List.contains_iff_mem.2 hm] at hT; cases hT
  rw [depsIn_spec hi] at hd
  obtain ⟨o, ho⟩ := operAt_lt hi
  have hpl := h.plan
  simp only [dplan, ho] at hpl
  have heo : eagerOp o.op = true := by unfold eagerB at he; rw [ho] at he; exact he
  have hst : ∃ d, EVal P G all i s d ∧ dplan P G all Q p ⟨updO s.env (dstAt all i) d, s.heap⟩ := by
    have hdst : dstAt all i = o.dst := by simp [dstAt, ho]
    rw [hdst]
    rcases dAt_wanted.1 hpl with ⟨hw, hdop⟩ | ⟨hw, hput⟩
    · obtain ⟨d, hd1, hd2⟩ := eager_spec o.op heo hdop
      exact ⟨d, ⟨o, ho, heo, .inl ⟨hw, fun K Q hK => hd2 Q K s (fun _ _ => rfl) (fun _ _ => keepAt_refl) hK⟩⟩, hd1⟩
    · exact ⟨dundef, ⟨o, ho, heo, .inr ⟨hw, rfl⟩⟩, hput⟩
  obtain ⟨d, hev, hpl'⟩ := hst
  have seqApp : ∀ (js : List Nat) (c : DS), Seq P G all c js s → Seq P G all c (js ++ [i]) ⟨updO s.env (dstAt all i) d, s.heap⟩ := by
    intro js
    induction js with
    | nil => intro c hc; cases hc; exact ⟨d, hev, rfl⟩
    | cons j js ih => intro c hc; obtain ⟨d', h1, h2⟩ := hc; exact ⟨d', h1, ih _ h2⟩
  refine ⟨⟨updO s.env (dstAt all i) d, s.heap⟩, ?_⟩
  exact {
    sim := h.sim, ext := h.ext, seq := seqApp js c h.seq, plan := hpl', ok := hp, cov := hc, size := h.size
    iff := fun k hk => by
      rw [h.iff k hk]
      simp only [List.mem_cons, List.mem_append, List.not_mem_nil, or_false, not_or]
      constructor
      · rintro ⟨h1, h2⟩
        exact ⟨.inr h1, h2, fun e => hT' (e ▸ h1)⟩
      · rintro ⟨h1, h2, h3⟩
        exact ⟨h1.resolve_left h3, h2⟩
    sub := fun k hk => by
      simp only [List.mem_append, List.mem_cons, List.not_mem_nil, or_false] at hk ⊢
      rcases hk with hk | rfl
      · exact ⟨.inr (h.sub k hk).1, (h.sub k hk).2⟩
      · exact ⟨.inl rfl, hi⟩
    tlt := fun k hk => by
      simp only [List.mem_cons] at hk
      rcases hk with rfl | hk
      · exact hi
      · exact h.tlt k hk
    nodup := by
      rw [List.nodup_append]
      refine ⟨h.nodup, by simp, ?_⟩
      intro x hx y hy e
      simp only [List.mem_cons, List.not_mem_nil, or_false] at hy
      subst hy; subst e
      exact hT' (h.sub x hx).1
    eager := fun k hk => by
      simp only [List.mem_append, List.mem_cons, List.not_mem_nil, or_false] at hk
      rcases hk with hk | rfl
      · exact h.eager k hk
      · exact he
    pair := by
      rw [List.pairwise_append]
      refine ⟨h.pair, by simp, ?_⟩
      intro j hj k hk
      simp only [List.mem_cons, List.not_mem_nil, or_false] at hk
      subst hk
      refine ⟨h.out j hj k hi hT', ?_⟩
      cases hdep : depB all j k with
      | false => rfl
      | true => exact (hT' (h.deps j hj k hdep).1).elim
    out := fun j hj k hk hkT => by
      simp only [List.mem_append, List.mem_cons, List.not_mem_nil, or_false, not_or] at hj hkT
      rcases hj with hj | rfl
      · exact h.out j hj k hk hkT.2
      · rcases ha k hk with ((h1 | h1) | h1) | h1
        · exact (hkT.2 h1).elim
        · exact (hkT.1 h1).elim
        · exact .inl h1
        · exact .inr h1
    deps := fun j hj e hde => by
      simp only [List.mem_append, List.mem_cons, List.not_mem_nil, or_false] at hj ⊢
      rcases hj with hj | rfl
      · exact ⟨.inr (h.deps j hj e hde).1, (h.deps j hj e hde).2⟩
      · have := hd e hde
        exact ⟨.inr this, fun hh => hT' (hh ▸ this)⟩
    clo := h.clo }

def notTake : Plan → Prop
  | .take _ _ => False
  | _ => True

theorem Inv.normal : ∀ {p : Plan} {T js : List Nat} {c s : DS} {a : Act} {w : World} {listed : Array Bool}, Inv P G N all Q s0 w0 T js p c s a w listed →
    ∃ T' js' p' s', Inv P G N all Q s0 w0 T' js' p' c s' a w listed ∧ notTake p'
  | .take i p, T, js, c, s, a, w, listed, h => by
    obtain ⟨s', h'⟩ := h.advance
    exact h'.normal
  | .done, T, js, c, s, a, w, listed, h => ⟨T, js, _, s, h, trivial⟩
  | .go i ls p, T, js, c, s, a, w, listed, h => ⟨T, js, _, s, h, trivial⟩
  | .alt p q, T, js, c, s, a, w, listed, h => ⟨T, js, _, s, h, trivial⟩

/-- All taken, or something more may come. -/
theorem plan_more : ∀ (p : Plan) (T : List Nat) (s : DS), planOk all p T = true → dplan P G all Q p s →
    ((∀ i, i < all.length → i ∈ T) ∧ Q .normal s) ∨ ∃ i, i < all.length ∧ i ∉ T ∧ ∀ e, depB all i e = true → e ∈ T
  | .done, T, s, hok, h => by
    simp only [planOk, List.all_eq_true, List.mem_range, List.contains_iff_mem] at hok
    exact .inl ⟨hok, h⟩
  | .take i p, T, s, hok, h => by
    simp only [planOk, Bool.and_eq_true, decide_eq_true_eq, Bool.not_eq_true'] at hok
    obtain ⟨⟨⟨⟨⟨⟨hi, hT⟩, he⟩, hd⟩, _⟩, _⟩, _⟩ := hok
    exact .inr ⟨i, hi, (fun hm => by rw [List.contains_iff_mem.2 hm] at hT; cases hT), (depsIn_spec hi).1 hd⟩
  | .go i ls p, T, s, hok, h => by
    simp only [planOk, Bool.and_eq_true, decide_eq_true_eq, Bool.not_eq_true'] at hok
    obtain ⟨⟨⟨⟨⟨hi, hT⟩, hd⟩, _⟩, _⟩, _⟩ := hok
    exact .inr ⟨i, hi, (fun hm => by rw [List.contains_iff_mem.2 hm] at hT; cases hT), (depsIn_spec hi).1 hd⟩
  | .alt p q, T, s, hok, h => by
    simp only [planOk, Bool.and_eq_true] at hok
    exact plan_more p T s hok.1 h.1

theorem plan_first : ∀ (p : Plan) (T : List Nat) (s : DS) (k : Nat), planOk all p T = true → dplan P G all Q p s → k ∈ firsts p →
    ∃ ls p', planOk all (.go k ls p') T = true ∧ dplan P G all Q (.go k ls p') s
  | .done, T, s, k, _, _, hk => by simp [firsts] at hk
  | .take i p, T, s, k, _, _, hk => by simp [firsts] at hk
  | .go i ls p, T, s, k, hok, h, hk => by
    simp only [firsts, List.mem_cons, List.not_mem_nil, or_false] at hk
    subst hk
    exact ⟨ls, p, hok, h⟩
  | .alt p q, T, s, k, hok, h, hk => by
    simp only [planOk, Bool.and_eq_true] at hok
    simp only [firsts, List.mem_append] at hk
    rcases hk with hk | hk
    · exact plan_first p T s k hok.1 h.1 hk
    · exact plan_first q T s k hok.2 h.2 hk

theorem cover_spec {p : Plan} {T : List Nat} (hc : cover all T p = true) (hok : planOk all p T = true) (hn : notTake p) {k : Nat} (hk : k < all.length) (hT : k ∉ T) (hd : ∀ e, depB all k e = true → e ∈ T) : k ∈ firsts p := by
  have gen : ((List.range all.length).all fun k => T.contains k || (firsts p).contains k || !depsIn all k T) = true → k ∈ firsts p := by
    intro h
    simp only [List.all_eq_true, List.mem_range, Bool.or_eq_true, List.contains_iff_mem, Bool.not_eq_true'] at h
    rcases h k hk with (h1 | h1) | h1
    · exact (hT h1).elim
    · exact h1
    · rw [(depsIn_spec hk).2 hd] at h1; cases h1
  cases p with
  | done =>
    simp only [planOk, List.all_eq_true, List.mem_range, List.contains_iff_mem] at hok
    exact (hT (hok k hk)).elim
  | take i p => exact hn.elim
  | go i ls p => exact gen hc
  | alt p q => exact gen hc

theorem keepL_mem {s : DS} {H' : DHeap} : ∀ {ls : List Nat}, keepL G all s H' ls → ∀ l ∈ ls, keepO G s H' (lookAtO (operAt all l))
  | [], _, l, hl => by simp at hl
  | x :: ls, h, l, hl => by
    simp only [List.mem_cons] at hl
    rcases hl with rfl | hl
    · exact h.1
    · exact keepL_mem h.2 l hl

theorem Inv.sound {F : Fence} {n : Nat} (hF : FOk F) (hall : all.all (operOk N) = true) (hQ : ∀ v env env' h, Q (.panic v) ⟨env, h⟩ → Q (.panic v) ⟨env', h⟩) : ∀ (fuel : Nat) (U T js : List Nat) (p : Plan) (c s : DS) (a : Act) (w : World) (listed : Array Bool),
    Inv P G N all Q s0 w0 T js p c s a w listed → U.length ≤ fuel → (∀ i, i < all.length → listed.getD i true = false → i ∈ U) →
    wpAnyIn F n P .any all.toArray (ExitS G N Q s0 w0) fuel listed a w := by
  intro fuel
  induction fuel with
  | zero =>
    intro U T js p c s a w listed h hU hUm
    have hnil : U = [] := List.eq_nil_of_length_eq_zero (Nat.le_zero.1 hU)
    subst hnil
    have hall1 : ∀ i, i < all.length → listed.getD i true = true := by
      intro i hi
      cases hl : listed.getD i true with
      | true => rfl
      | false => exact absurd (hUm i hi hl) (by simp)
    have hjs : js = [] := by
      cases js with
      | nil => rfl
      | cons j js =>
        have hs := h.sub j (by simp)
        exact absurd (by simp) ((h.iff j hs.2).1 (hall1 j hs.2)).2
    subst hjs
    have hsc := h.seq
    simp only [Seq] at hsc
    refine ⟨?_, ?_⟩
    · rw [List.eq_nil_iff_forall_not_mem]
      intro k hk
      rw [ready_spec h.size] at hk
      rw [hall1 k hk.1] at hk
      cases hk.2.1
    · rcases plan_more p T s h.ok h.plan with ⟨_, hq⟩ | ⟨i, hi, hiT, _⟩
      · subst hsc; exact ⟨.normal, s, hq, .normal, h.sim, h.ext⟩
      · exact absurd ((h.iff i hi).1 (hall1 i hi)).1 hiT
  | succ fuel ih =>
    intro U T js p c s a w listed h0 hU hUm
    obtain ⟨T, js, p, s, h, hnt⟩ := h0.normal
    have inList : ∀ e, listed.getD e false = true → e ∈ T ∧ e ∉ js := by
      intro e he
      have hlt : e < listed.size := by
        rcases Nat.lt_or_ge e listed.size with h' | h'
        · exact h'
        · simp [Array.getElem?_eq_none h'] at he
      have := he
      rw [getD_false_true hlt] at this
      exact (h.iff e (by rw [← h.size]; exact hlt)).1 this
    refine ⟨fun hr => ?_, fun k hk => ?_⟩
    · -- nothing may come up: all have
      have hno : ∀ k, k ∉ Region.ready .any all.toArray listed := by rw [hr]; simp
      have toL : ∀ e, e ∈ T → e ∉ js → e < all.length → listed.getD e false = true := by
        intro e h1 h2 h3
        rw [getD_false_true (by rw [h.size]; exact h3)]
        exact (h.iff e h3).2 ⟨h1, h2⟩
      have unl : ∀ i, i < all.length → ¬ (i ∈ T ∧ i ∉ js) → listed.getD i true = false := by
        intro i hi hn
        cases hl : listed.getD i true with
        | false => rfl
        | true => exact (hn ((h.iff i hi).1 hl)).elim
      have hjs : js = [] := by
        cases js with
        | nil => rfl
        | cons j js =>
          refine (hno j ((ready_spec h.size).2 ⟨(h.sub j (by simp)).2, unl j (h.sub j (by simp)).2 (fun hh => hh.2 (by simp)), fun e he => ?_⟩)).elim
          obtain ⟨g1, g2⟩ := h.deps j (by simp) e he
          refine toL e g1 (fun hm => ?_) (h.tlt e g1)
          simp only [List.mem_cons] at hm
          rcases hm with hm | hm
          · exact g2 hm
          · have := ((List.pairwise_cons.1 h.pair).1 e hm).2
            rw [he] at this; cases this
      subst hjs
      have hsc := h.seq
      simp only [Seq] at hsc
      rcases plan_more p T s h.ok h.plan with ⟨_, hq⟩ | ⟨i, hi, hiT, hd⟩
      · subst hsc; exact ⟨.normal, s, hq, .normal, h.sim, h.ext⟩
      · exact (hno i ((ready_spec h.size).2 ⟨hi, unl i hi (fun hh => hiT hh.1), fun e he => toL e (hd e he) (by simp) (h.tlt e (hd e he))⟩)).elim
    · rw [ready_spec h.size] at hk
      obtain ⟨hkn, hun, hdep⟩ := hk
      obtain ⟨o, ho⟩ := operAt_lt hkn
      have hdepT : ∀ e, depB all k e = true → e ∈ T ∧ e ∉ js := fun e he => inList e (hdep e he)
      have hU' : k ∈ U := hUm k hkn hun
      have hUl : (U.erase k).length ≤ fuel := by
        rw [List.length_erase_of_mem hU']; omega
      have hset : ∀ i, i ≠ k → (listed.setIfInBounds k true).getD i true = listed.getD i true := fun i hi => getD_set_ne true (Ne.symm hi)
      have hsetk : (listed.setIfInBounds k true).getD k true = true := by
        have : k < listed.size := by rw [h.size]; exact hkn
        simp [this]
      have hup : ∀ e, listed.getD e false = true → (listed.setIfInBounds k true).getD e false = true := by
        intro e he
        have hlt : e < listed.size := by
          rcases Nat.lt_or_ge e listed.size with h' | h'
          · exact h'
          · simp [Array.getElem?_eq_none h'] at he
        by_cases hek : e = k
        · subst hek
          simp [hlt]
        · rw [getD_set_ne false (Ne.symm hek)]; exact he
      have hclo : ∀ i, i < all.length → (listed.setIfInBounds k true).getD i true = true → ∀ e, depB all i e = true → (listed.setIfInBounds k true).getD e false = true := by
        intro i hi hl e he
        by_cases hik : i = k
        · subst hik; exact hup e (hdep e he)
        · rw [hset i hik] at hl
          exact hup e (h.clo i hi hl e he)
      have hUm' : ∀ i, i < all.length → (listed.setIfInBounds k true).getD i true = false → i ∈ U.erase k := by
        intro i hi hl
        by_cases hik : i = k
        · subst hik; rw [hsetk] at hl; cases hl
        · rw [hset i hik] at hl
          exact (List.mem_erase_of_ne hik).2 (hUm i hi hl)
      by_cases hkj : k ∈ js
      · -- it was taken before
        obtain ⟨A, B, rfl⟩ := List.append_of_mem hkj
        have hpw := List.pairwise_append.1 h.pair
        have hnd := h.nodup
        rw [List.nodup_append] at hnd
        have apA : ∀ j ∈ A, Apart all j k := by
          intro j hj
          have hjlt := (h.sub j (by simp [hj])).2
          obtain ⟨x, hx⟩ := operAt_lt hjlt
          rcases (hpw.2.2 j hj k (by simp)).1 with hd | ha
          · exact absurd (by simp [hj]) (hdepT j hd).2
          · exact apartB_spec hx ho ha
        obtain ⟨d, hev, hrest⟩ := Seq.front apA h.seq
        obtain ⟨o', ho', heo, hev⟩ := hev
        rw [ho] at ho'; cases ho'
        have hdst : dstAt all k = o.dst := by simp [dstAt, ho]
        have hat : dAt P G all (fun s1 => s1 = ⟨updO c.env o.dst d, c.heap⟩) Q c (some o) := by
          rw [dAt_wanted]
          rcases hev with ⟨hw, hv⟩ | ⟨hw, rfl⟩
          · exact .inl ⟨hw, hv _ _ rfl⟩
          · exact .inr ⟨hw, rfl⟩
        refine wpOpIn_mono ?_ (wpOp_sound hF hall ho h.sim h.ext hat)
        rintro a' w' ⟨s1, rfl, hS', hE'⟩
        refine ih (U.erase k) T (A ++ B) p ⟨updO c.env o.dst d, c.heap⟩ s a' w' _ ?_ hUl hUm'
        have memE : ∀ i, i ∈ A ++ B → i ∈ A ++ k :: B := fun i hi => by
          simp only [List.mem_append, List.mem_cons] at hi ⊢
          rcases hi with hi | hi
          · exact .inl hi
          · exact .inr (.inr hi)
        have subl : (A ++ B).Sublist (A ++ k :: B) := List.Sublist.append (List.Sublist.refl A) (List.sublist_cons_self k B)
        have kno : k ∉ A ++ B := by
          intro hm
          have := h.nodup
          rw [(List.perm_middle (a := k) (l₁ := A) (l₂ := B)).nodup_iff] at this
          exact (List.nodup_cons.1 this).1 hm
        exact {
          sim := hS', ext := h.ext.trans hE', seq := by rw [hdst] at hrest; exact hrest, plan := h.plan, ok := h.ok, cov := h.cov
          size := by simp [h.size]
          iff := fun i hi => by
            by_cases hik : i = k
            · subst hik
              rw [hsetk]
              exact ⟨fun _ => ⟨(h.sub i (by simp)).1, kno⟩, fun _ => rfl⟩
            · rw [hset i hik, h.iff i hi]
              simp only [List.mem_append, List.mem_cons, not_or]
              constructor
              · rintro ⟨g1, g2, g3⟩; exact ⟨g1, g2, g3.2⟩
              · rintro ⟨g1, g2, g3⟩; exact ⟨g1, g2, hik, g3⟩
          sub := fun i hi => h.sub i (memE i hi)
          tlt := h.tlt
          nodup := h.nodup.sublist subl
          eager := fun i hi => h.eager i (memE i hi)
          pair := h.pair.sublist subl
          out := fun i hi => h.out i (memE i hi)
          deps := fun i hi => h.deps i (memE i hi)
          clo := hclo }
      · -- it is the plan's next
        have hkT : k ∉ T := by
          intro hm
          have := (h.iff k hkn).2 ⟨hm, hkj⟩
          rw [hun] at this; cases this
        have hf := cover_spec h.cov h.ok hnt hkn hkT fun e he => (hdepT e he).1
        obtain ⟨ls, p', hok, hpl⟩ := plan_first p T s k h.ok h.plan hf
        simp only [planOk, Bool.and_eq_true, decide_eq_true_eq, Bool.not_eq_true'] at hok
        obtain ⟨⟨⟨⟨⟨_, _⟩, hd⟩, hlk⟩, hc'⟩, hp'⟩ := hok
        simp only [dplan, ho] at hpl
        have apJ : ∀ j ∈ js, Apart all j k := by
          intro j hj
          obtain ⟨x, hx⟩ := operAt_lt (h.sub j hj).2
          rcases h.out j hj k hkn hkT with hd | ha
          · exact absurd hj (hdepT j hd).2
          · exact apartB_spec hx ho ha
        have hdst : dstAt all k = o.dst := by simp [dstAt, ho]
        have hlooks : looks all k = o.looksAt all.toArray := by simp [looks, ho]
        have agree : ∀ t ∈ o.looksAt all.toArray, c.env t = s.env t := by
          intro t ht
          refine (Seq.env h.seq t fun j hj e => ?_).symm
          exact (apJ j hj).a t e (by rw [hlooks]; exact ht)
        have shift : ∀ d H', KeepK G all ls s (dplan P G all Q p') ⟨updO s.env o.dst d, H'⟩ →
            (∃ s1, dplan P G all Q p' s1 ∧ Seq P G all ⟨updO c.env o.dst d, H'⟩ js s1) := by
          intro d H' hK
          refine ⟨_, hK.2, Seq.shift h.seq (fun j hj t e => ?_) (fun j hj t e e2 => ?_) ?_⟩
          · exact (apJ j hj).c t (by rw [hdst]; exact e)
          · exact (apJ j hj).b t e (by rw [hdst]; exact e2)
          · intro A j B e oj a hoj hla
            have hjm : j ∈ js := by rw [e]; simp
            have hjT := (h.sub j hjm).1
            unfold looksOk at hlk
            rw [List.all_eq_true] at hlk
            have hl := hlk j hjT
            simp only [lookAtO, hoj, hla, Bool.or_eq_true, Bool.and_eq_true, List.contains_iff_mem, bne_iff_ne] at hl
            rcases hl with (hl | ⟨hl1, hl2⟩) | ⟨hl1, hl2⟩
            · exact absurd hjm (hdepT j hl).2
            · rcases ancDown_spec h.size hdep h.clo (k + 1) [k] (fun m hm => .inl (by simpa using hm)) j hl2 with hh | hh
              · exact absurd hh hl1
              · exact absurd hjm (inList j hh).2
            · refine ⟨fun t ht m hm hdm => ?_, ?_⟩
              · subst ht
                simp only [slotKept, List.all_eq_true, Bool.or_eq_true, bne_iff_ne] at hl2
                have hmj : m ∈ js := by rw [e]; exact List.mem_append_right _ hm
                rcases hl2 m (h.sub m hmj).1 with g | g
                · exact g hdm
                · simp only [List.mem_cons] at hm
                  rcases hm with rfl | hm
                  · exact (h.deps m hmj m g).2 rfl
                  · have hp := h.pair
                    rw [e, List.pairwise_append] at hp
                    have := (List.pairwise_cons.1 hp.2.1).1 m hm
                    rw [g] at this
                    cases this.2
              · have hkl := keepL_mem hK.1 j hl1
                simp only [lookAtO, hoj, hla, keepO] at hkl
                rw [← Seq.heap h.seq]
                exact hkl
        have hat : dAt P G all (fun c1 => ∃ s1, dplan P G all Q p' s1 ∧ Seq P G all c1 js s1) Q c (some o) := by
          rw [dAt_wanted] at hpl ⊢
          rw [looks_wanted agree]
          have hheap := Seq.heap h.seq
          rcases hpl with ⟨hw, hop⟩ | ⟨hw, hput⟩
          · refine .inl ⟨hw, dop_congr o.op (looks_dev (all := all) agree) hheap.symm (fun d H' hK => shift d H' hK) (fun v H' hq => hQ v _ _ H' hq) hop⟩
          · refine .inr ⟨hw, ?_⟩
            unfold dput at hput ⊢
            rw [← hheap]
            exact shift _ _ hput
        refine wpOpIn_mono ?_ (wpOp_sound hF hall ho h.sim h.ext hat)
        rintro a' w' ⟨c1, ⟨s1, hp1, hseq⟩, hS', hE'⟩
        refine ih (U.erase k) (k :: T) js p' c1 s1 a' w' _ ?_ hUl hUm'
        exact {
          sim := hS', ext := h.ext.trans hE', seq := hseq, plan := hp1, ok := hp', cov := hc'
          size := by simp [h.size]
          iff := fun i hi => by
            by_cases hik : i = k
            · subst hik
              rw [hsetk]
              exact ⟨fun _ => ⟨by simp, hkj⟩, fun _ => rfl⟩
            · rw [hset i hik, h.iff i hi]
              simp [hik]
          sub := fun i hi => ⟨by simp [(h.sub i hi).1], (h.sub i hi).2⟩
          tlt := fun i hi => by
            simp only [List.mem_cons] at hi
            rcases hi with rfl | hi
            · exact hkn
            · exact h.tlt i hi
          nodup := h.nodup
          eager := h.eager
          pair := h.pair
          out := fun i hi m hm hmT => h.out i hi m hm (fun hh => hmT (by simp [hh]))
          deps := fun i hi e he => ⟨by simp [(h.deps i hi e he).1], (h.deps i hi e he).2⟩
          clo := hclo }

/-- **A REGION WHOSE ORDER IS DRAWN**, by a plan. -/
theorem dwp_any {id : Nat} {ops : Array Oper} {s : DS} (hm : P.follows .mixedOrders = true) (p : Plan)
    (hp : (ops.toList.all (operOk N) && cover ops.toList [] p && planOk ops.toList p []) = true) (h : dplan P G ops.toList (QP Q) p s) : DWp P G N (.region id ops true) Q s := by
  intro F n B hF a w hS
  simp only [Bool.and_eq_true] at hp
  obtain ⟨⟨hall, hc⟩, hok⟩ := hp
  have hE : Ext s.heap w s.heap { w with drawn := w.drawn + 1 } := ⟨rfl, rfl, rfl, Nat.le_refl _, fun _ _ _ => rfl, fun _ h => .inl h, fun _ _ => rfl, fun _ _ _ => rfl⟩
  have hSH : SimHeap { w with drawn := w.drawn + 1 } s.heap := fun r o hr => (hS.heap r o hr).lasts hE.lasts
  have hS' : Sim G ⟨N.n, B⟩ s a { w with drawn := w.drawn + 1 } := hS.ext hE hSH
  have key := Inv.sound (n := n) hF (P := P) (G := G) (N := ⟨N.n, B⟩) (all := ops.toList) (Q := QP Q) (s0 := s) (w0 := w) hall
    (fun v env env' h hq env'' => hq env'') ops.toList.length (List.range ops.toList.length) [] [] p s s a { w with drawn := w.drawn + 1 } (Array.replicate ops.size false)
    { sim := hS', ext := hE, seq := rfl, plan := h, ok := hok, cov := hc, size := by simp
      iff := fun i hi => by
        have : i < ops.size := by simpa using hi
        simp [this]
      sub := by simp
      tlt := by simp
      nodup := by simp
      eager := by simp
      pair := by simp
      out := by simp
      deps := by simp
      clo := fun k hk hl => by
        have : k < ops.size := by simpa using hk
        simp [this] at hl } (by simp) (fun i hi _ => by simpa using hi)
  have e1 : ops.toList.toArray = ops := by simp
  have e2 : ops.toList.length = ops.size := by simp
  rw [e1, e2] at key
  refine wpIn_mono (wpIn_region_any hm key) ?_
  rintro e a' w' ⟨e', s', hq, hx, hS1, hE1⟩
  refine ⟨e', s', ?_, hx, hS1, hE1⟩
  cases hx with
  | normal => exact hq
  | panic d v hv => exact hq s'.env
  | exit => exact hq.elim
  | goto => exact hq.elim
  | ret => exact hq.elim

end
end Go.Dl

-- THE DATA LEVEL, PART 3: plans run by simp.
namespace Go.Dl
open Go
attribute [go_sem] operAt.eq_1 operAt.eq_2 operAt.eq_3 dGuardK.eq_1 dGuardK.eq_2 dGuardK.eq_3 dGuardK.eq_4 dGuardK.eq_5 dGuardK.eq_6 dGuardKO.eq_1 dOne.eq_1 dOne.eq_2 dAt.eq_1 keepAt.eq_1 keepAt.eq_2 keepO.eq_1 keepO.eq_2 lookAtO.eq_1 lookOp.eq_1 lookOp.eq_2 lookOp.eq_3 keepL.eq_1 keepL.eq_2 dplan.eq_1 dplan.eq_2 dplan.eq_3 dplan.eq_4 QP.eq_1 QP.eq_2
attribute [go_sem] KeepK
section
variable (v : DVal) (H H' : DHeap)
@[go_sem] theorem keepAt_vptr (cs : List DVal) (o : Nat) : keepAt H H' (.vptr cs o) = True := rfl
@[go_sem] theorem keepAt_vslice (cs : List DVal) (o : Nat) : keepAt H H' (.vslice cs o) = True := rfl
@[go_sem] theorem keepAt_int (k : IntKind) (n : Int) : keepAt H H' (.int k n) = True := rfl
@[go_sem] theorem keepAt_bool (b : Bool) : keepAt H H' (.bool b) = True := rfl
@[go_sem] theorem keepAt_nilSlice : keepAt H H' .nilSlice = True := rfl
@[go_sem] theorem keepAt_str (s : List UInt8) : keepAt H H' (.str s) = True := rfl
end

end Go.Dl

-- THE DATA LEVEL, PART 5: loops over iterators: a round, the statement.
namespace Go.Dl
open Go Go.RowKit

section
variable {P : Program} {G : Nat → DVal} {N : Nat} {w w' : World} {Q : DExit → DS → Prop}

theorem upd_idem {α : Type} (f : Nat → α) (l : Nat) (x y : α) : upd (upd f l x) l y = upd f l y := by
  funext i; simp only [upd]; split <;> rfl
theorem upd_none_self {α : Type} {f : Nat → Option α} {l : Nat} (h : f l = none) (x : Option α) : upd (upd f l x) l none = f := by
  funext i; simp only [upd]; split
  · rename_i e; subst e; exact h.symm
  · rfl

theorem dbind_rel {H : DHeap} : ∀ (ps : List Tmp) (ds : List DVal) (vs : List Value) (env : Nat → DVal) (tmps : Array Value), ds.length = ps.length → RelL w H ds vs → tmps.size = N → (∀ i, i < N → Rel w H (env i) (tmps.getD i undef)) →
    ((ps.zip vs).foldl (fun t (p, v) => t.setIfInBounds p v) tmps).size = N ∧ ∀ i, i < N → Rel w H (dbind env ps ds i) (((ps.zip vs).foldl (fun t (p, v) => t.setIfInBounds p v) tmps).getD i undef)
  | [], [], vs, env, tmps, _, hv, hs, he => by
    simp only [RelL] at hv; subst hv
    exact ⟨hs, he⟩
  | p :: ps, d :: ds, vs, env, tmps, hl, hv, hs, he => by
    simp only [RelL] at hv
    obtain ⟨y, ys, rfl, h1, h2⟩ := hv
    simp only [List.zip_cons_cons, List.foldl_cons, dbind]
    refine dbind_rel ps ds ys (upd env p d) (tmps.setIfInBounds p y) (by simpa using hl) h2 (by simpa using hs) fun i hi => ?_
    simp only [upd]
    by_cases e : i = p
    · subst e
      have : (tmps.setIfInBounds i y).getD i undef = y := by simp [Array.getD, hs, hi]
      rw [if_pos rfl, this]; exact h1
    · rw [if_neg e]
      have : (tmps.setIfInBounds p y).getD i undef = tmps.getD i undef := by
        rw [Array.getD_eq_getD_getElem?, Array.getD_eq_getD_getElem?, Array.getElem?_setIfInBounds_ne (Ne.symm e)]
      rw [this]; exact he i hi
  | [], _ :: _, _, _, _, hl, _, _, _ => by simp at hl
  | _ :: _, [], _, _, _, hl, _, _, _ => by simp at hl

theorem ext_book {H H' : DHeap} {l : Nat} {o o' : Obj} {ob : Option DObj} (hl : H l ≠ none) (hlt : l < w.heap.size) (hE : Ext (upd H l none) w H' w') (ho : w'.heap[l]? = some o) (h : isBook o = true) (h' : isBook o' = true) :
    Ext H w (upd H' l ob) (w'.putObj l o') := by
  refine ⟨hE.os, hE.tape, hE.output, by simpa [World.putObj] using hE.size, fun b hb hn => ?_, fun b hb => ?_, fun b hb => ?_, fun a ha hn => ?_⟩
  · have e : b ≠ l := fun e => hl (e ▸ hn)
    rw [World.putObj_heap_other e]
    exact hE.block b hb (by simp [upd, e, hn])
  · by_cases e : b = l
    · exact .inl (e ▸ hl)
    · simp only [upd, if_neg e] at hb
      rcases hE.own b hb with k | k
      · simp only [upd, if_neg e] at k; exact .inl k
      · exact .inr k
  · rw [csize_putObj ho h h' b]; exact hE.keep b hb
  · rw [putObj_fz ho h h' a]; exact hE.fz a ha (by simp only [upd]; split; rfl; exact hn)

theorem lasts_book {H : DHeap} {l : Nat} {o : Obj} {ob : Option DObj} (ho : w.heap[l]? = some o) (h : isBook o = true) : Lasts H w (upd H l ob) w := by
  refine ⟨fun b i x hb hc => ⟨?_, hc⟩, Nat.le_refl _, fun _ _ => rfl⟩
  by_cases e : b = l
  · subst e; unfold World.cell? at hc; rw [ho] at hc; cases o <;> first | cases h; done | simp at hc
  · simp [upd, e, hb]

theorem simHeap_book {H : DHeap} {l : Nat} {o : Obj} {ob : DObj} (hH : SimHeap w H) (hn : H l = none) (ho : w.heap[l]? = some o) (h : isBook o = true) (hob : RelObj w (upd H l (some ob)) ob w.heap[l]?) : SimHeap w (upd H l (some ob)) := by
  intro r x hx
  by_cases e : r = l
  · subst e; simp only [upd, if_pos] at hx; cases hx; exact hob
  · simp only [upd, if_neg e] at hx
    exact (hH r x hx).lasts (lasts_book ho h)

/-- The way in which a round is left, as the iterator and the record see it. -/
def DRound (R : DEnd → DHeap → Prop) (l : Nat) (env : Nat → DVal) (N : Nat) (r : Loop) : DExit → DS → Prop
  | .normal, s => R (.ret (.bool true)) (upd s.heap l (some (.loop env N r)))
  | .ret, s => R (.ret (.bool false)) (upd s.heap l (some (.loop env N { r with state := .done, pending := some .ret })))
  | .exit id, s => R (.ret (.bool false)) (upd s.heap l (some (.loop env N { r with state := .done, pending := some (.exit id) })))
  | .goto t, s => R (.ret (.bool false)) (upd s.heap l (some (.loop env N { r with state := .done, pending := some (.goto t) })))
  | .panic _, _ => False

def DThen (K : DK) : DExit → DS → Prop
  | .normal, s => K s
  | _, _ => False

/-- **A ROUND**, out of its body. -/
theorem dyields_intro {l : Nat} {args : List DVal} {H : DHeap} {R : DEnd → DHeap → Prop} {env : Nat → DVal} {r : Loop} (hl : H l = some (.loop env N r)) (hst : r.state = .ready) (hpe : r.pending = none) (hps : args.length = r.params.size)
    (hok : (codeOk N r.assign && codeOk N r.body && flat r.assign && flat r.body) = true)
    (Qb : DExit → DS → Prop) (h : dwp P G N r.assign (DThen (dwp P G N r.body Qb)) ⟨dbind env r.params.toList args, upd H l none⟩) (hqb : ∀ e s, Qb e s → s.heap l = none → DRound R l env N r e s) : DYields P G l args H R := by
  intro F n hF vs w hv hH hG
  simp only [Bool.and_eq_true] at hok
  obtain ⟨⟨⟨ok1, ok2⟩, fl1⟩, fl2⟩ := hok
  obtain ⟨tmps, h1, h2, h3⟩ := hH l _ hl
  have hlt : l < w.heap.size := (Array.getElem?_eq_some_iff.1 h1).1
  have hvl := hv.length
  refine ⟨_, _, _, _, run_yield h1 (by simp; omega), roundIn_of_wpIn (hF.fn _) ?_⟩
  have hF' : FOk (F.inRound l) := by
    rcases hF with rfl | ⟨l0, rfl⟩
    · exact .inr ⟨l, rfl⟩
    · exact .inr ⟨l, rfl⟩
  have hlg : Lasts H w (upd H l none) w := lasts_book h1 rfl
  have hb := dbind_rel (w := w) (H := upd H l none) r.params.toList args vs env tmps (by simpa using hps) (hv.lasts hlg) h2 (fun i hi => (h3 i hi).lasts hlg)
  have hfold : (r.params.zip vs.toArray).foldl (fun t (p, v) => t.setIfInBounds p v) tmps = (r.params.toList.zip vs).foldl (fun t (p, v) => t.setIfInBounds p v) tmps := by
    rw [← Array.foldl_toList, Array.toList_zip]
  have hS : Sim G ⟨N, ⟨w.heap.size, [], false⟩⟩ ⟨dbind env r.params.toList args, upd H l none⟩ { tmps := (r.params.zip vs.toArray).foldl (fun t (p, v) => t.setIfInBounds p v) tmps, defers := [] } w := by
    rw [hfold]
    exact ⟨hb.1, Dfs.nil _ _ _, hb.2, hH.letGo l, hG.lasts hlg, Nat.le_refl _⟩
  refine wpIn_mono (dwp_soundF hF' r.assign ok1 (.inr fl1) _ _ h _ w hS) ?_
  rintro e a1 w1 ⟨e', s1, hQ, hX, hS1, hE1⟩
  cases hX <;> first | exact hQ.elim | skip
  have hn1 : s1.heap l = none := by
    cases e : s1.heap l with
    | none => rfl
    | some o =>
      rcases hE1.own l (by simp [e]) with k | k
      · simp [upd] at k
      · omega
  have hl1 : w1.heap[l]? = some (.loop { r with tmps := tmps }) := by rw [hE1.block l hlt (by simp [upd])]; exact h1
  refine ⟨_, run_beginRound hl1 (by simpa using hst), ?_⟩
  obtain ⟨w2, hw2⟩ : ∃ w2, w1.putObj l (.loop { { r with tmps := tmps } with state := .busy }) = w2 := ⟨_, rfl⟩
  have hlt1 : l < w1.heap.size := (Array.getElem?_eq_some_iff.1 hl1).1
  have hl2 : w2.heap[l]? = some (.loop { { r with tmps := tmps } with state := .busy }) := by rw [← hw2]; exact World.putObj_heap_same hlt1
  have hLp := putObj_lasts (o' := .loop { { r with tmps := tmps } with state := .busy }) hl1 rfl rfl s1.heap
  rw [hw2] at hLp ⊢
  have hS2 : Sim G ⟨N, ⟨w.heap.size, [], false⟩⟩ s1 a1 w2 := by
    refine ⟨hS1.size, ?_, fun i hi => (hS1.tmps i hi).lasts hLp, ?_, hS1.glob.lasts hLp, ?_⟩
    · obtain ⟨Ds, g1, g2, g3⟩ := hS1.defers
      refine ⟨Ds, g1, g2, fun D hD => ?_⟩
      obtain ⟨k1, k2, k3⟩ := g3 D hD
      have : D ≠ l := fun e => by rw [e, hl1] at k2; cases k2
      exact ⟨k1, by rw [← hw2, World.putObj_heap_other this]; exact k2, k3⟩
    · rw [← hw2]; exact putObj_sim hl1 rfl rfl hS1.heap hn1
    · rw [← hw2]; simpa [World.putObj] using hS1.base
  have hE2 : Ext H w (upd s1.heap l (some (.loop env N r))) w2 := by
    rw [← hw2]; exact ext_book (by simp [hl]) hlt hE1 hl1 rfl rfl
  refine wpIn_mono (dwp_soundF hF' r.body ok2 (.inr fl2) _ _ hQ _ w2 hS2) ?_
  rintro e a3 w3 ⟨e', s3, hQ3', hX3, hS3, hE3⟩
  have hlt2 : l < w2.heap.size := (Array.getElem?_eq_some_iff.1 hl2).1
  have hn3 : s3.heap l = none := by
    cases e : s3.heap l with
    | none => rfl
    | some o =>
      rcases hE3.own l (by simp [e]) with k | k
      · exact (k hn1).elim
      · omega
  have hQ3 := hqb _ _ hQ3' hn3
  have hl3 : w3.heap[l]? = some (.loop { { r with tmps := tmps } with state := .busy }) := by rw [hE3.block l hlt2 hn1]; exact hl2
  have hlt3 : l < w3.heap.size := (Array.getElem?_eq_some_iff.1 hl3).1
  have fin : ∀ (r' : Loop), (∃ st pe, r' = { r with state := st, pending := pe }) →
      SimHeap (w3.putObj l (.loop { r' with tmps := tmps })) (upd s3.heap l (some (.loop env N r'))) ∧ Ext H w (upd s3.heap l (some (.loop env N r'))) (w3.putObj l (.loop { r' with tmps := tmps })) := by
    rintro r' ⟨st, pe, rfl⟩
    have hE4 : Ext (upd s1.heap l (some (.loop env N r))) w2 (upd s3.heap l (some (.loop env N { r with state := st, pending := pe }))) (w3.putObj l (.loop { { r with state := st, pending := pe } with tmps := tmps })) :=
      ext_book (by simp [upd]) hlt2 (by rw [upd_none_self hn1]; exact hE3) hl3 rfl rfl
    have hE := hE2.trans hE4
    refine ⟨simHeap_book (putObj_sim hl3 rfl rfl hS3.heap hn3) hn3 (World.putObj_heap_same hlt3) rfl ?_, hE⟩
    rw [World.putObj_heap_same hlt3]
    exact ⟨tmps, rfl, h2, fun i hi => (h3 i hi).lasts hE.lasts⟩
  cases hX3 with
  | normal =>
    obtain ⟨g1, g2⟩ := fin r ⟨r.state, r.pending, rfl⟩
    refine ⟨_, _, run_endRound none hl3, .ret (.bool true), _, hQ3, .ret _ _ (by simp [Rel]), ?_⟩
    have : ({ ({ { r with tmps := tmps } with state := .busy } : Loop) with state := (if (none : Option Code).isNone then LoopState.ready else .done), pending := none } : Loop) = { r with tmps := tmps } := by
      cases r; simp at hst hpe; subst hst; subst hpe; rfl
    rw [this]
    exact ⟨g1, g2⟩
  | ret =>
    obtain ⟨g1, g2⟩ := fin _ ⟨.done, some .ret, rfl⟩
    exact ⟨_, _, run_endRound (some .ret) hl3, .ret (.bool false), _, hQ3, .ret _ _ (by simp [Rel]), g1, g2⟩
  | exit id =>
    obtain ⟨g1, g2⟩ := fin _ ⟨.done, some (.exit id), rfl⟩
    exact ⟨_, _, run_endRound (some (.exit id)) hl3, .ret (.bool false), _, hQ3, .ret _ _ (by simp [Rel]), g1, g2⟩
  | goto t =>
    obtain ⟨g1, g2⟩ := fin _ ⟨.done, some (.goto t), rfl⟩
    exact ⟨_, _, run_endRound (some (.goto t)) hl3, .ret (.bool false), _, hQ3, .ret _ _ (by simp [Rel]), g1, g2⟩
  | panic d v hv => exact hQ3.elim

/-- The jump that a round has left is made. -/
def DJump (Q : DExit → DS → Prop) : Code → DS → Prop
  | .ret, s => Q .ret s
  | .exit id, s => Q (.exit id) s
  | .goto t, s => Q (.goto t) s
  | _, _ => False
def DJumpO (Q : DExit → DS → Prop) : Option Code → DS → Prop
  | none, s => Q .normal s
  | some c, s => DJump Q c s

/-- A loop's record as it is laid. -/
def rec0 (fn : FuncId) (ps : Array Tmp) (asg body : Code) (D : Nat) : Loop := { state := .ready, pending := none, fn, tmps := #[], params := ps, assign := asg, body, defers := D }

theorem frozen_book {o : Obj} (h : isBook o = true) (a : Addr) : (w.alloc o).frozen? a = w.frozen? a := by
  unfold World.frozen?
  have hh : (w.alloc o).heap[a.block]? = if a.block = w.heap.size then some o else w.heap[a.block]? := by
    show (w.heap.push o)[a.block]? = _
    rw [Array.getElem?_push]
  rw [hh]
  by_cases e : a.block = w.heap.size
  · rw [if_pos e, e, Array.getElem?_eq_none (Nat.le_refl _)]
    cases o <;> first | cases h; done | rfl
  · rw [if_neg e]

/-- **THE STATEMENT 'for .. := range f { .. }'.** -/
theorem dwp0_rangeFunc {g : Operand} {ps : Array Tmp} {asg body : Code} {s : DS} {gf : FuncId} {captured : List DVal} (hgo : opdOk N g = true) (hg : dev G s.env g = .func (.func gf) [] captured)
    (h : ∀ l D fn, s.heap l = none → DCalls P G gf (.func (.yield l) [] [] :: captured) (upd s.heap l (some (.loop s.env N (rec0 fn ps asg body D)))) (fun e H' => ∃ v, e = .ret v ∧ ∃ st pe, st ≠ .busy ∧
      H' l = some (.loop s.env N { rec0 fn ps asg body D with state := st, pending := pe }) ∧ DJumpO Q pe ⟨s.env, upd H' l none⟩)) : DWp0 P G N (.rangeFunc g ps asg body) Q s := by
  intro n B hstill a w hS
  refine wpIn_rangeFunc fun fn hfn => ?_
  have rg := rel_dev (N := ⟨N, B⟩) hS hgo
  rw [hg] at rg
  simp only [Rel, RelL] at rg
  obtain ⟨xs, lb, hfv, hxs, hlb⟩ := rg
  have hxs : xs = #[] := by cases xs; simp at hxs; subst hxs; rfl
  subst hxs
  obtain ⟨W1, hW1⟩ : ∃ W1, (w.alloc (.deferred (some []))).alloc (.loop { rec0 fn ps asg body w.heap.size with tmps := a.tmps }) = W1 := ⟨_, rfl⟩
  have hsz : W1.heap.size = w.heap.size + 2 := by rw [← hW1]; simp
  have hL1 : W1.heap[w.heap.size + 1]? = some (.loop { rec0 fn ps asg body w.heap.size with tmps := a.tmps }) := by
    rw [← hW1]; have := World.alloc_heap_new (w.alloc (.deferred (some []))) (.loop { rec0 fn ps asg body w.heap.size with tmps := a.tmps }); rwa [World.size_alloc] at this
  have hK1 : W1.heap[w.heap.size]? = some (.deferred (some [])) := by
    rw [← hW1]; exact (Below.heap_alloc _ _ _ (by simp)).trans (World.alloc_heap_new w _)
  have hbl : ∀ b, b < w.heap.size → W1.heap[b]? = w.heap[b]? := fun b hb => by
    rw [← hW1, Below.heap_alloc _ _ _ (by simp; omega), Below.heap_alloc _ _ _ hb]
  have hn0 : ∀ b, w.heap.size ≤ b → s.heap b = none := fun b hb => by
    cases e : s.heap b with
    | none => rfl
    | some o => exact absurd (hS.heap.lt (r := b) (by simp [e])) (by omega)
  obtain ⟨H1, hH1⟩ : ∃ H1, upd s.heap (w.heap.size + 1) (some (.loop s.env N (rec0 fn ps asg body w.heap.size))) = H1 := ⟨_, rfl⟩
  have hE1 : Ext s.heap w H1 W1 := by
    refine ⟨by rw [← hW1]; rfl, by rw [← hW1]; rfl, by rw [← hW1]; rfl, by omega, fun b hb _ => hbl b hb, fun b hb => ?_, fun b hb => by rw [hbl b hb], fun a _ _ => ?_⟩
    · rw [← hH1] at hb
      by_cases e : b = w.heap.size + 1
      · exact .inr (by omega)
      · simp only [upd, if_neg e] at hb; exact .inl hb
    · rw [← hW1, frozen_book rfl, frozen_book rfl]
  have hSH1 : SimHeap W1 H1 := by
    have h0 : SimHeap W1 s.heap := fun r o ho => by
      rw [hbl r (hS.heap.lt (by simp [ho]))]
      refine (hS.heap r o ho).lasts (H' := s.heap) ⟨fun b i x hb hc => ⟨hb, ?_⟩, by omega, fun b hb => by rw [hbl b hb]⟩
      unfold World.cell? at hc ⊢
      rw [hbl b (by exact cell_lt (b := b) (i := i) hc)]; exact hc
    rw [← hH1]
    refine simHeap_book h0 (hn0 _ (by omega)) hL1 rfl ?_
    rw [hL1, hH1]
    exact ⟨a.tmps, rfl, hS.size, fun i hi => (hS.tmps i hi).lasts hE1.lasts⟩
  have hc := h (w.heap.size + 1) w.heap.size fn (hn0 _ (by omega))
  rw [hH1] at hc
  refine ⟨w.heap.size + 1, [{ target := .collected w.heap.size, args := #[] }], W1, { target := .fn (.func gf) lb, args := #[.func (.yield (w.heap.size + 1)) #[] #[]] }, W1, gf,
    #[.func (.yield (w.heap.size + 1)) #[] #[]] ++ lb, W1, ?_, ?_, ?_, ?_, ?_, ?_⟩
  · rw [← hW1]; exact run_enterLoop_outer _ _ _ _ _
  · simp only [resolve, hfv]
    simp [go_sem]
  · intro f' hf'; trivial
  · simp only [invoke]; exact hc.1 _ _
  · intro hh; cases hh
  refine callsIn_wide.2 ?_
  have harr : (#[.func (.yield (w.heap.size + 1)) #[] #[]] ++ lb : Array Value) = (.func (.yield (w.heap.size + 1)) #[] #[] :: lb.toList).toArray := by apply Array.ext'; simp
  rw [harr]
  have hargs : RelL W1 H1 (.func (.yield (w.heap.size + 1)) [] [] :: captured) (.func (.yield (w.heap.size + 1)) #[] #[] :: lb.toList) := by
    simp only [RelL]
    exact ⟨_, _, rfl, by simp only [Rel, RelL]; exact ⟨#[], #[], rfl, rfl, rfl⟩, RelL.lasts hE1.lasts _ _ hlb⟩
  refine (hc.2 _ _ hargs hSH1 (hS.glob.lasts hE1.lasts)).mono ?_
  rintro e w2 ⟨e', H', ⟨v, rfl, st, pe, hst, hl', hq⟩, hre, hH', hE2⟩
  cases hre with
  | ret d v hv =>
    obtain ⟨tmps, hl2, hsz2, hrel2⟩ := hH' _ _ hl'
    have hlt2 : w.heap.size + 1 < w2.heap.size := (Array.getElem?_eq_some_iff.1 hl2).1
    refine ⟨_, _, run_endLoop hl2 (by simpa using hst), ?_⟩
    obtain ⟨w4, hw4⟩ : ∃ w4, w2.putObj (w.heap.size + 1) (.loop { ({ rec0 fn ps asg body w.heap.size with state := st, pending := pe, tmps := tmps } : Loop) with state := .exhausted }) = w4 := ⟨_, rfl⟩
    have hE4 : Ext s.heap w (upd H' (w.heap.size + 1) none) w4 := by
      rw [← hw4]
      refine ⟨hE2.os.trans hE1.os, hE2.tape.trans hE1.tape, hE2.output.trans hE1.output, by have := hE2.size; simp only [World.putObj_size]; omega, fun b hb hn => ?_, fun b hb => ?_, fun b hb => ?_, fun a ha hn => ?_⟩
      · rw [World.putObj_heap_other (by omega), hE2.block b (by omega) (by rw [← hH1]; simp only [upd]; rw [if_neg (by omega)]; exact hn), hbl b hb]
      · by_cases e : b = w.heap.size + 1
        · simp [upd, e] at hb
        · simp only [upd, if_neg e] at hb
          rcases hE2.own b hb with k | k
          · rw [← hH1] at k; simp only [upd, if_neg e] at k; exact .inl k
          · exact .inr (by omega)
      · rw [csize_putObj hl2 rfl rfl b, hE2.keep b (by omega), hbl b hb]
      · rw [putObj_fz hl2 rfl rfl, hE2.fz a (Nat.lt_of_lt_of_le ha hE1.size) (by rw [← hH1]; simp only [upd]; rw [if_neg (by omega)]; exact hn), hE1.fz a ha hn]
    have hHD : H' w.heap.size = none := by
      cases e : H' w.heap.size with
      | none => rfl
      | some o =>
        rcases hE2.own _ (by rw [e]; simp) with k | k
        · rw [← hH1] at k; simp only [upd] at k; rw [if_neg (by omega)] at k; exact (k (hn0 _ (Nat.le_refl _))).elim
        · omega
    have hD4 : w4.heap[w.heap.size]? = some (.deferred (some [])) := by
      rw [← hw4, World.putObj_heap_other (by omega), hE2.block _ (by omega) (by rw [← hH1]; simp only [upd]; rw [if_neg (by omega)]; exact hn0 _ (Nat.le_refl _))]
      exact hK1
    have hS4 : Sim G ⟨N, B⟩ ⟨s.env, upd H' (w.heap.size + 1) none⟩ { a with defers := [{ target := .collected w.heap.size, args := #[] }] ++ a.defers } w4 := by
      refine ⟨hS.size, ?_, fun i hi => (hS.tmps i hi).lasts hE4.lasts, ?_, hS.glob.lasts hE4.lasts, Nat.le_trans hS.base hE4.size⟩
      · obtain ⟨Ds, g1, g2, g3⟩ := hS.defers.ext hE4
        obtain ⟨Ds', g1', g2', g3'⟩ := hS.defers
        have hDs : Ds = Ds' := by
          have := List.append_cancel_right (g1.symm.trans g1')
          clear g1 g2 g3 g1' g2' g3'
          induction Ds generalizing Ds' with
          | nil => cases Ds' <;> simp_all
          | cons x xs ih =>
            cases Ds' with
            | nil => simp at this
            | cons y ys =>
              simp only [List.map_cons, List.cons.injEq] at this
              obtain ⟨t1, t2⟩ := this
              have := ih ys t2
              simp at t1
              rw [t1, this]
        subst hDs
        refine ⟨w.heap.size :: Ds, by rw [g1]; rfl, List.nodup_cons.2 ⟨fun hm => ?_, g2⟩, fun D hD => ?_⟩
        · have := (Array.getElem?_eq_some_iff.1 (g3' _ hm).2.1).1
          omega
        · rcases List.mem_cons.1 hD with rfl | hD
          · exact ⟨⟨hS.base, hstill⟩, hD4, by simp only [upd]; split; rfl; exact hHD⟩
          · exact g3 D hD
      · rw [← hw4]
        exact putObj_sim hl2 rfl rfl (hH'.letGo _) (by simp [upd])
    have hw4' : w2.putObj (w.heap.size + 1) (.loop { ({ ({ rec0 fn ps asg body w.heap.size with state := st, pending := pe } : Loop) with tmps := tmps } : Loop) with state := .exhausted }) = w4 := hw4
    rw [hw4']
    cases pe with
    | none => exact ⟨_, _, hq, .normal, hS4, hE4⟩
    | some c =>
      simp only [DJumpO] at hq
      cases c <;> first | exact hq.elim | skip
      case ret => exact wpIn_ret ⟨_, _, hq, .ret, hS4, hE4⟩
      case exit id => exact wpIn_exit ⟨_, _, hq, .exit id, hS4, hE4⟩
      case goto t => exact wpIn_goto ⟨_, _, hq, .goto t, hS4, hE4⟩

end
end Go.Dl

-- THE DATA LEVEL, PART 6: a heap in two parts; the contract of an iterator; the loop over it.
namespace Go.Dl
open Go Go.RowKit

/-- The part X over the part Hi. -/
def over (Hi X : DHeap) : DHeap := fun r => match X r with
  | some o => some o
  | none => Hi r
def Disj (Hi X : DHeap) : Prop := ∀ r, X r ≠ none → Hi r = none
/-- No block. -/
def h0 : DHeap := fun _ => none

theorem over_h0 (Hi : DHeap) : over Hi h0 = Hi := rfl
theorem h0_over (X : DHeap) : over h0 X = X := by funext r; unfold over h0; cases X r <;> rfl
theorem upd_over (Hi X : DHeap) (r : Nat) (o : DObj) : upd (over Hi X) r (some o) = over Hi (upd X r (some o)) := by
  funext i; simp only [upd, over]; by_cases e : i = r <;> simp [e]
theorem upd_over_none {Hi X : DHeap} {r : Nat} (h : Hi r = none) : upd (over Hi X) r none = over Hi (upd X r none) := by
  funext i; simp only [upd, over]; by_cases e : i = r
  · subst e; simp [h]
  · simp [e]
theorem upd_over_lo {Hi X : DHeap} {r : Nat} (h : X r = none) (o : Option DObj) : upd (over Hi X) r o = over (upd Hi r o) X := by
  funext i; simp only [upd, over]; by_cases e : i = r
  · subst e; simp [h]
  · simp [e]
theorem over_eq_none {Hi X : DHeap} {r : Nat} : over Hi X r = none ↔ Hi r = none ∧ X r = none := by
  unfold over; cases h : X r <;> simp
theorem over_hi {Hi X : DHeap} {r : Nat} (h : X r = none) : over Hi X r = Hi r := by simp [over, h]
theorem over_x {Hi X : DHeap} {r : Nat} {o : DObj} (h : X r = some o) : over Hi X r = some o := by simp [over, h]
theorem upd_eq_none {H : DHeap} {r r' : Nat} {o : DObj} : upd H r (some o) r' = none ↔ r' ≠ r ∧ r ≠ r' ∧ H r' = none := by
  unfold upd; by_cases e : r' = r
  · simp [e]
  · simp [e, Ne.symm e, eq_comm]
theorem h0_none (r : Nat) : h0 r = none := rfl
theorem Disj.h0 (Hi : DHeap) : Disj Hi h0 := fun r h => (h rfl).elim
theorem Disj.hi {Hi X : DHeap} (h : Disj Hi X) {r : Nat} (hr : Hi r = none) (o : Option DObj) : Disj Hi (upd X r o) := by
  intro b hb; by_cases e : b = r
  · subst e; exact hr
  · simp only [Dl.upd, if_neg e] at hb; exact h b hb
theorem Disj.lo {Hi X : DHeap} (h : Disj Hi X) {r : Nat} (hr : X r = none) (o : Option DObj) : Disj (upd Hi r o) X := by
  intro b hb; by_cases e : b = r
  · subst e; exact (hb hr).elim
  · simp only [Dl.upd, if_neg e]; exact h b hb
theorem Disj.x {Hi X : DHeap} (h : Disj Hi X) {r : Nat} (hr : Hi r ≠ none) : X r = none := by
  cases e : X r with
  | none => rfl
  | some o => exact (hr (h r (by simp [e]))).elim

/-- **THE CONTRACT OF AN ITERATOR**: function 'gf' with 'captured' behind yield comes with the data of L, in order, and then ends; its own blocks (they lie in Hi) do not turn in the rounds. 'I k X': k rounds are over, and the loop's own part of the heap is X. 'Ix o X': a round has said 'no more'; o: the loop's record as it is then. -/
def DIter (P : Program) (G : Nat → DVal) (gf : FuncId) (captured : List DVal) (Y : DHeap) (L : List (List DVal)) : Prop :=
  ∀ (l : Nat) (I : Nat → DHeap → Prop) (Ix : Option DObj → DHeap → Prop) (Hi X : DHeap), Disj Hi X → Disj Hi Y → Disj Y X → Y l = none → Hi l ≠ none → I 0 X →
    (∀ k x Hi' X, Disj Hi' X → Hi' l = Hi l → L[k]? = some x → I k X → DYields P G l x (over Hi' X) fun e H' => ∃ X',
      (e = .ret (.bool true) ∧ H' = over Hi' X' ∧ Disj Hi' X' ∧ I (k + 1) X') ∨ (e = .ret (.bool false) ∧ ∃ o, o ≠ none ∧ H' = over (upd Hi' l o) X' ∧ Disj (upd Hi' l o) X' ∧ Ix o X')) →
    DCalls P G gf (.func (.yield l) [] [] :: captured) (over (over Hi Y) X) fun e H' => (∃ v, e = .ret v) ∧ ∃ X',
      (H' = over Hi X' ∧ Disj Hi X' ∧ I L.length X') ∨ (∃ o, o ≠ none ∧ H' = over (upd Hi l o) X' ∧ Disj (upd Hi l o) X' ∧ Ix o X')

section
variable {P : Program} {G : Nat → DVal} {N : Nat} {Q : DExit → DS → Prop}

/-- How a round's body is left, as the loop's invariant sees it. -/
def DBodyQ (Hi : DHeap) (J : DHeap → Prop) (Jx : Code → DHeap → Prop) : DExit → DS → Prop
  | .normal, s => ∃ X, s.heap = over Hi X ∧ Disj Hi X ∧ J X
  | .ret, s => ∃ X, s.heap = over Hi X ∧ Disj Hi X ∧ Jx .ret X
  | .exit id, s => ∃ X, s.heap = over Hi X ∧ Disj Hi X ∧ Jx (.exit id) X
  | .goto t, s => ∃ X, s.heap = over Hi X ∧ Disj Hi X ∧ Jx (.goto t) X
  | .panic _, _ => False

/-- **A LOOP OVER AN ITERATOR.** 'I k X': what the loop's own part of the heap is when k rounds are over; 'Ix c X': a round has left by the jump c. -/
theorem dwp0_range {g : Operand} {ps : Array Tmp} {asg body : Code} {s : DS} {gf : FuncId} {captured : List DVal} {Y : DHeap} {L : List (List DVal)} (hg : dev G s.env g = .func (.func gf) [] captured)
    (hok : (opdOk N g && codeOk N asg && codeOk N body && flat asg && flat body) = true)
    (hit : DIter P G gf captured Y L) (hL : ∀ x ∈ L, x.length = ps.size)
    (Hi X : DHeap) (hs : s.heap = over (over Hi Y) X) (d1 : Disj Hi X) (d2 : Disj Hi Y) (d3 : Disj Y X)
    (I : Nat → DHeap → Prop) (Ix : Code → DHeap → Prop) (h0 : I 0 X)
    (hbody : ∀ k x Hi X, Disj Hi X → L[k]? = some x → I k X → dwp P G N asg (DThen (dwp P G N body (DBodyQ Hi (I (k + 1)) Ix))) ⟨dbind s.env ps.toList x, over Hi X⟩)
    (hdone : ∀ X, Disj Hi X → I L.length X → Q .normal ⟨s.env, over Hi X⟩)
    (hexit : ∀ c X, Disj Hi X → Ix c X → DJump Q c ⟨s.env, over Hi X⟩) : DWp0 P G N (.rangeFunc g ps asg body) Q s := by
  simp only [Bool.and_eq_true] at hok
  obtain ⟨⟨⟨⟨k1, k2⟩, k3⟩, k4⟩, k5⟩ := hok
  refine dwp0_rangeFunc k1 hg fun l D fn hl => ?_
  rw [hs, over_eq_none, over_eq_none] at hl
  obtain ⟨⟨hlH, hlY⟩, hlX⟩ := hl
  have hH : upd s.heap l (some (.loop s.env N (rec0 fn ps asg body D))) = over (over (upd Hi l (some (.loop s.env N (rec0 fn ps asg body D)))) Y) X := by
    rw [hs, upd_over_lo hlX, upd_over_lo hlY]
  rw [hH]
  refine (hit l I (fun o X => ∃ c, o = some (.loop s.env N { rec0 fn ps asg body D with state := .done, pending := some c }) ∧ Ix c X) (upd Hi l (some (.loop s.env N (rec0 fn ps asg body D)))) X (d1.lo hlX _) (d2.lo hlY _) d3 hlY (by simp [upd]) h0 ?_).mono ?_
  · intro k x Hi' X hd hl' hx hI
    have hX : X l = none := hd.x (by rw [hl']; simp [upd])
    have hHl : over Hi' X l = some (.loop s.env N (rec0 fn ps asg body D)) := by rw [over_hi hX, hl']; simp [upd]
    refine dyields_intro hHl rfl rfl (hL x (List.mem_of_getElem? hx)) (by simp only [rec0, Bool.and_eq_true]; exact ⟨⟨⟨k2, k3⟩, k4⟩, k5⟩) _ (by rw [upd_over_lo hX]; exact hbody k x (upd Hi' l none) X (hd.lo hX _) hx hI) ?_
    rintro e ⟨env', heap'⟩ hq hn
    have back : ∀ (X' : DHeap) (o : Option DObj), Disj (upd Hi' l none) X' → X' l = none → Disj (upd Hi' l o) X' := fun X' o h h2 => by
      have := h.lo h2 o; rwa [upd_idem] at this
    have hup : ∀ X', X' l = none → ∀ o, upd (over (upd Hi' l none) X') l o = over (upd Hi' l o) X' := fun X' h o => by
      rw [upd_over_lo h, upd_idem]
    have hid : upd Hi' l (some (.loop s.env N (rec0 fn ps asg body D))) = Hi' := by
      funext b; simp only [upd]; split
      · rename_i e; subst e; rw [hl']; simp [upd]
      · rfl
    cases e with
    | normal =>
      obtain ⟨X', h1, h2, h3⟩ := hq
      simp only at h1 hn; subst h1
      have hx' := (over_eq_none.1 hn).2
      refine ⟨X', .inl ⟨rfl, ?_, ?_, h3⟩⟩
      · rw [hup X' hx', hid]
      · have := back X' (some (.loop s.env N (rec0 fn ps asg body D))) h2 hx'; rw [hid] at this; exact this
    | ret =>
      obtain ⟨X', h1, h2, h3⟩ := hq
      simp only at h1 hn; subst h1
      have hx' := (over_eq_none.1 hn).2
      exact ⟨X', .inr ⟨rfl, some (.loop s.env N { rec0 fn ps asg body D with state := .done, pending := some .ret }), Option.some_ne_none _, hup X' hx' _, back X' _ h2 hx', _, rfl, h3⟩⟩
    | exit id =>
      obtain ⟨X', h1, h2, h3⟩ := hq
      simp only at h1 hn; subst h1
      have hx' := (over_eq_none.1 hn).2
      exact ⟨X', .inr ⟨rfl, some (.loop s.env N { rec0 fn ps asg body D with state := .done, pending := some (.exit id) }), Option.some_ne_none _, hup X' hx' _, back X' _ h2 hx', _, rfl, h3⟩⟩
    | goto t =>
      obtain ⟨X', h1, h2, h3⟩ := hq
      simp only at h1 hn; subst h1
      have hx' := (over_eq_none.1 hn).2
      exact ⟨X', .inr ⟨rfl, some (.loop s.env N { rec0 fn ps asg body D with state := .done, pending := some (.goto t) }), Option.some_ne_none _, hup X' hx' _, back X' _ h2 hx', _, rfl, h3⟩⟩
    | panic v => exact hq.elim
  · rintro e H' ⟨⟨v, rfl⟩, X', (⟨rfl, hd, hi⟩ | ⟨o, ho, rfl, hd, c, rfl, hx⟩)⟩
    · have hX : X' l = none := hd.x (by simp [upd])
      refine ⟨v, rfl, .ready, none, by simp, ?_, ?_⟩
      · rw [over_hi hX]; simp [upd, rec0]
      · simp only [DJumpO]
        rw [upd_over_lo hX, upd_none_self hlH]
        refine hdone X' ?_ hi
        have := hd.lo hX none
        rwa [upd_none_self hlH] at this
    · have hX : X' l = none := hd.x (by simp [upd])
      refine ⟨v, rfl, .done, some c, by simp, ?_, ?_⟩
      · rw [over_hi hX]; simp [upd]
      · simp only [DJumpO]
        rw [upd_over_lo hX, upd_idem, upd_none_self hlH]
        refine hexit c X' ?_ hx
        have := hd.lo hX none
        rwa [upd_idem, upd_none_self hlH] at this
end
end Go.Dl

-- THE DATA LEVEL, PART 7: own memory seen as memory that lasts; calls that only look.
namespace Go.Dl
open Go Go.RowKit

mutual
/-- The value, with block r (its cells: cs) seen as memory that lasts. -/
def fz (r : Nat) (cs : List DVal) : DVal → DVal
  | .optr r' off => if r' = r then .vptr cs off else .optr r' off
  | .oslice sz r' off len lo => if r' = r then .vslice ((cs.drop off).take (len * sz)) len else .oslice sz r' off len lo
  | .func fn a c => .func fn (fzs r cs a) (fzs r cs c)
  | .iface t v => .iface t (fz r cs v)
  | .agg l => .agg (fzs r cs l)
  | .tuple l => .tuple (fzs r cs l)
  | .vptr l off => .vptr (fzs r cs l) off
  | .vslice l n => .vslice (fzs r cs l) n
  | d => d
def fzs (r : Nat) (cs : List DVal) : List DVal → List DVal
  | [] => []
  | d :: ds => fz r cs d :: fzs r cs ds
end

section
variable {P : Program} {G : Nat → DVal} {w : World} {H : DHeap}

theorem lasts_letGo (H : DHeap) (r : Nat) (w : World) : Lasts H w (upd H r none) w :=
  ⟨fun b i x hb hc => ⟨by simp only [upd]; split; rfl; exact hb, hc⟩, Nat.le_refl _, fun _ _ => rfl⟩

theorem own_cellsAt (hH : SimHeap w H) {r : Nat} {cs : List DVal} {e : TypeId} (hr : H r = some (.cells cs e)) : ∃ xs, RelL w (upd H r none) cs xs ∧ CellsAt w (upd H r none) r 0 xs := by
  obtain ⟨xs, hl, hh⟩ := hH.holds hr
  exact ⟨xs, hl.lasts (lasts_letGo H r w), .inr ⟨by simp [upd], fun i x hx => by simpa using hh i x hx⟩⟩

theorem CellsAt.part {b off : Nat} {xs : List Value} (h : CellsAt w H b off xs) (m n : Nat) : CellsAt w H b (off + m) ((xs.drop m).take n) := by
  rcases h with rfl | ⟨h1, h2⟩
  · exact .inl (by simp)
  · refine .inr ⟨h1, fun i x hx => ?_⟩
    have : xs[m + i]? = some x := by
      rw [List.getElem?_take] at hx
      split at hx
      · simpa using hx
      · cases hx
    have := h2 _ x this
    rwa [← Nat.add_assoc] at this

mutual
theorem fz_rel (hH : SimHeap w H) {r : Nat} {cs : List DVal} {e : TypeId} (hr : H r = some (.cells cs e)) : ∀ (d : DVal) (v : Value), Rel w H d v → Rel w (upd H r none) (fz r cs d) v
  | .optr r' off, v, h => by
    simp only [fz]
    split
    · rename_i e'; subst e'
      simp only [Rel] at h ⊢
      obtain ⟨xs, hl, hc⟩ := own_cellsAt hH hr
      exact ⟨r', 0, xs, by simpa using h, hc, hl⟩
    · simpa [Rel] using h
  | .oslice sz r' off len lo, v, h => by
    simp only [fz]
    split
    · rename_i e'; subst e'
      simp only [Rel] at h ⊢
      obtain ⟨o, cap, rfl, h1, h2, h3, h4⟩ := h
      obtain ⟨xs, hl, hc⟩ := own_cellsAt hH hr
      refine ⟨_, cap, rfl, h2, ?_⟩
      by_cases h0 : cap = 0
      · have : len = 0 := by omega
        subst this; left; simp
      · have ho : o = off := h3.resolve_left h0
        subst ho
        right
        refine ⟨r', o, (xs.drop o).take (len * sz), rfl, ?_, (hl.drop o).take _⟩
        have := hc.part o (len * sz)
        simpa using this
    · exact Rel.lasts (lasts_letGo H r w) _ _ h
  | .func fn a c, v, h => by
    simp only [Rel, fz] at h ⊢
    obtain ⟨xs, ys, rfl, h1, h2⟩ := h
    exact ⟨xs, ys, rfl, fzs_rel hH hr _ _ h1, fzs_rel hH hr _ _ h2⟩
  | .iface t d, v, h => by
    simp only [Rel, fz] at h ⊢
    obtain ⟨x, rfl, h1⟩ := h
    exact ⟨x, rfl, fz_rel hH hr _ _ h1⟩
  | .agg l, v, h => by
    simp only [Rel, fz] at h ⊢
    obtain ⟨x, rfl, h1⟩ := h
    exact ⟨x, rfl, fzs_rel hH hr _ _ h1⟩
  | .tuple l, v, h => by
    simp only [Rel, fz] at h ⊢
    obtain ⟨x, rfl, h1⟩ := h
    exact ⟨x, rfl, fzs_rel hH hr _ _ h1⟩
  | .raw x, v, h => by simp only [fz]; exact Rel.lasts (lasts_letGo H r w) _ _ h
  | .bool x, v, h => by simp only [fz]; exact Rel.lasts (lasts_letGo H r w) _ _ h
  | .int x y, v, h => by simp only [fz]; exact Rel.lasts (lasts_letGo H r w) _ _ h
  | .str x, v, h => by simp only [fz]; exact Rel.lasts (lasts_letGo H r w) _ _ h
  | .nilPtr, v, h => by simp only [fz]; exact Rel.lasts (lasts_letGo H r w) _ _ h
  | .vptr l off, v, h => by
    simp only [Rel, fz] at h ⊢
    obtain ⟨b, o, xs, rfl, h1, h2⟩ := h
    exact ⟨b, o, xs, rfl, h1.lasts (lasts_letGo H r w), fzs_rel hH hr _ _ h2⟩
  | .nilSlice, v, h => by simp only [fz]; exact Rel.lasts (lasts_letGo H r w) _ _ h
  | .vslice l n, v, h => by
    simp only [Rel, fz] at h ⊢
    obtain ⟨a, cap, rfl, hle, h1⟩ := h
    refine ⟨a, cap, rfl, hle, ?_⟩
    rcases h1 with h1 | ⟨b, o, xs, rfl, h1, h2⟩
    · subst h1; exact .inl rfl
    · exact .inr ⟨b, o, xs, rfl, h1.lasts (lasts_letGo H r w), fzs_rel hH hr _ _ h2⟩
  | .nilMap, v, h => by simp only [fz]; exact Rel.lasts (lasts_letGo H r w) _ _ h
  | .omap x, v, h => by simp only [fz]; exact Rel.lasts (lasts_letGo H r w) _ _ h
  | .nilFunc, v, h => by simp only [fz]; exact Rel.lasts (lasts_letGo H r w) _ _ h
  | .nilIface, v, h => by simp only [fz]; exact Rel.lasts (lasts_letGo H r w) _ _ h
theorem fzs_rel (hH : SimHeap w H) {r : Nat} {cs : List DVal} {e : TypeId} (hr : H r = some (.cells cs e)) : ∀ (ds : List DVal) (vs : List Value), RelL w H ds vs → RelL w (upd H r none) (fzs r cs ds) vs
  | [], vs, h => by simpa [fzs, RelL] using h
  | d :: ds, vs, h => by
    simp only [fzs, RelL] at h ⊢
    obtain ⟨y, ys, rfl, h1, h2⟩ := h
    exact ⟨y, ys, rfl, fz_rel hH hr _ _ h1, fzs_rel hH hr _ _ h2⟩
end

/-- A step of thought on a result. -/
def GhostE (H : DHeap) (v : DVal) (H' : DHeap) (v' : DVal) : Prop := ∀ w, SimHeap w H → SimHeap w H' ∧ (∀ b, H' b ≠ none → H b ≠ none) ∧ ∀ x, Rel w H v x → Rel w H' v' x

theorem GhostE.refl (H : DHeap) (v : DVal) : GhostE H v H v := fun _ h => ⟨h, fun _ h => h, fun _ h => h⟩
theorem GhostE.trans {H H' H'' : DHeap} {v v' v'' : DVal} (h : GhostE H v H' v') (k : GhostE H' v' H'' v'') : GhostE H v H'' v'' := fun w hw => by
  obtain ⟨h1, h2, h3⟩ := h w hw
  obtain ⟨k1, k2, k3⟩ := k w h1
  exact ⟨k1, fun b hb => h2 b (k2 b hb), fun x hx => k3 x (h3 x hx)⟩
theorem GhostE.fz {H : DHeap} {v : DVal} {r : Nat} {cs : List DVal} {e : TypeId} (hr : H r = some (.cells cs e)) : GhostE H v (upd H r none) (fz r cs v) := fun w hw =>
  ⟨hw.letGo r, fun b hb => by simp only [upd] at hb; split at hb <;> simp_all, fun x hx => fz_rel hw hr _ _ hx⟩
theorem GhostE.drop (H : DHeap) (v : DVal) (r : Nat) : GhostE H v (upd H r none) v := fun w hw =>
  ⟨hw.letGo r, fun b hb => by simp only [upd] at hb; split at hb <;> simp_all, fun x hx => Rel.lasts (lasts_letGo H r w) _ _ hx⟩

theorem DFin.ghost {R : DEnd → DHeap → Prop} {v v' : DVal} {H H' : DHeap} (g : GhostE H v H' v') (h : DFin R v' H') : DFin R v H := by
  obtain ⟨v2, H2, k, hR⟩ := h
  exact ⟨v2, H2, g.trans k, hR⟩
/-- Block r is seen as memory that lasts. -/
theorem DFin.fz {R : DEnd → DHeap → Prop} {v : DVal} {H : DHeap} (r : Nat) {cs : List DVal} {e : TypeId} (hr : H r = some (.cells cs e)) (h : DFin R (fz r cs v) (upd H r none)) : DFin R v H := .ghost (.fz hr) h
/-- Block r is let go. -/
theorem DFin.drop {R : DEnd → DHeap → Prop} {v : DVal} {H : DHeap} (r : Nat) (h : DFin R v (upd H r none)) : DFin R v H := .ghost (.drop H v r) h

theorem DCalls.ghost {f : FuncId} {args : List DVal} {H : DHeap} {R R' : DEnd → DHeap → Prop} (h : DCalls P G f args H R) (hr : ∀ e H', R e H' → ∃ v v' H'', e = .ret v ∧ GhostE H' v H'' v' ∧ R' (.ret v') H'') : DCalls P G f args H R' := by
  refine ⟨h.1, fun vs w hv hH hG => (h.2 vs w hv hH hG).mono fun e w' ⟨e', H', r, k1, k2, k3⟩ => ?_⟩
  obtain ⟨v, v', H'', rfl, g, r'⟩ := hr _ _ r
  obtain ⟨g1, g2, g3⟩ := g w' k2
  cases k1 with
  | ret d x hx => exact ⟨.ret v', H'', r', .ret _ _ (g3 x hx), g1, k3.os, k3.tape, k3.output, k3.size, k3.block, fun b hb => k3.own b (g2 b hb), k3.keep, k3.fz⟩

/-- The arguments are seen otherwise ahead of the call. -/
theorem DCalls.pre {f : FuncId} {args args' : List DVal} {H H' : DHeap} {R : DEnd → DHeap → Prop} (g : GhostE H (.tuple args) H' (.tuple args')) (h : DCalls P G f args' H' R) : DCalls P G f args H R := by
  refine ⟨h.1, fun vs w hv hH hG => ?_⟩
  obtain ⟨g1, g2, g3⟩ := g w hH
  have hl : Lasts H w H' w := ⟨fun b i x hb hc => ⟨by
    cases e : H' b with
    | none => rfl
    | some o => exact absurd hb (g2 b (by simp [e])), hc⟩, Nat.le_refl _, fun _ _ => rfl⟩
  have hv' : RelL w H' args' vs := by
    have := g3 (.tuple vs.toArray) (by simp only [Rel]; exact ⟨_, rfl, hv⟩)
    simp only [Rel] at this
    obtain ⟨xs, h1, h2⟩ := this
    cases h1; exact h2
  refine (h.2 vs w hv' g1 (hG.lasts hl)).mono fun e w' ⟨e', H'', r, k1, k2, k3⟩ => ⟨e', H'', r, k1, k2, k3.os, k3.tape, k3.output, k3.size, fun b hb hn => k3.block b hb (by
    cases e : H' b with
    | none => rfl
    | some o => exact absurd hn (g2 b (by simp [e]))), fun b hb => ?_, k3.keep, fun a ha hn => k3.fz a ha (by
    cases e : H' a.block with
    | none => rfl
    | some o => exact absurd hn (g2 a.block (by simp [e])))⟩
  rcases k3.own b hb with k | k
  · exact .inl (g2 b k)
  · exact .inr k
theorem DCalls.fzArgs {f : FuncId} {args : List DVal} {H : DHeap} {R : DEnd → DHeap → Prop} (r : Nat) {cs : List DVal} {e : TypeId} (hr : H r = some (.cells cs e)) (h : DCalls P G f (fzs r cs args) (upd H r none) R) : DCalls P G f args H R :=
  .pre (by have := GhostE.fz (v := .tuple args) hr; simpa only [fz] using this) h

/-- A value that points to nothing. -/
def plain : DVal → Bool
  | .bool _ | .int _ _ | .str _ | .nilPtr | .nilSlice | .nilMap | .nilFunc | .nilIface => true
  | .tuple l => plains l
  | .agg l => plains l
  | _ => false
where plains : List DVal → Bool
  | [] => true
  | d :: ds => plain d && plains ds

mutual
theorem plain_rel {w : World} {H H' : DHeap} : ∀ (d : DVal) (v : Value), plain d = true → Rel w H d v → Rel w H' d v
  | .tuple l, v, hp, h => by
    simp only [plain] at hp
    simp only [Rel] at h ⊢
    obtain ⟨x, rfl, h1⟩ := h
    exact ⟨x, rfl, plains_rel _ _ hp h1⟩
  | .agg l, v, hp, h => by
    simp only [plain] at hp
    simp only [Rel] at h ⊢
    obtain ⟨x, rfl, h1⟩ := h
    exact ⟨x, rfl, plains_rel _ _ hp h1⟩
  | .bool x, v, hp, h => by simpa [Rel] using h
  | .int x y, v, hp, h => by simpa [Rel] using h
  | .str x, v, hp, h => by simpa [Rel] using h
  | .nilPtr, v, hp, h => by simpa [Rel] using h
  | .nilSlice, v, hp, h => by simpa [Rel] using h
  | .nilMap, v, hp, h => by simpa [Rel] using h
  | .nilFunc, v, hp, h => by simpa [Rel] using h
  | .nilIface, v, hp, h => by simpa [Rel] using h
  | .raw _, _, hp, _ => by cases hp
  | .vptr _ _, _, hp, _ => by cases hp
  | .optr _ _, _, hp, _ => by cases hp
  | .vslice _ _, _, hp, _ => by cases hp
  | .oslice _ _ _ _ _, _, hp, _ => by cases hp
  | .omap _, _, hp, _ => by cases hp
  | .func _ _ _, _, hp, _ => by cases hp
  | .iface _ _, _, hp, _ => by cases hp
theorem plains_rel {w : World} {H H' : DHeap} : ∀ (ds : List DVal) (vs : List Value), plain.plains ds = true → RelL w H ds vs → RelL w H' ds vs
  | [], _, _, h => by simpa [RelL] using h
  | d :: ds, vs, hp, h => by
    simp only [plain.plains, Bool.and_eq_true] at hp
    simp only [RelL] at h ⊢
    obtain ⟨y, ys, rfl, h1, h2⟩ := h
    exact ⟨y, ys, rfl, plain_rel d y hp.1 h1, plains_rel ds ys hp.2 h2⟩
end

/-- **A CALL THAT ONLY LOOKS**: it is handed own memory as memory that lasts; its result points to nothing; the caller's own blocks are as they were. -/
theorem DCalls.borrow {f : FuncId} {args args' : List DVal} {H : DHeap} {R : DEnd → DHeap → Prop} (h : DCalls P G f args' h0 R) (hb : ∀ w vs, SimHeap w H → RelL w H args vs → RelL w h0 args' vs) (hG : ∀ g, plain (G g) = true ∨ (∃ r o, G g = .optr r o) ∨ ∀ w, Rel w H (G g) (.pointer (some ⟨g, 0, none⟩)) → Rel w h0 (G g) (.pointer (some ⟨g, 0, none⟩)))
    (hR : ∀ e H2, R e H2 → ∃ v, e = .ret v ∧ plain v = true) : DCalls P G f args H (fun e H2 => (∃ H3, R e H3) ∧ H2 = H) := by
  refine ⟨h.1, fun vs w hv hH hg => ?_⟩
  have hg0 : GOk G w h0 := ⟨fun g => by
    rcases hG g with k | ⟨r, o, k⟩ | k
    · exact plain_rel _ _ k (hg.rel g)
    · have := hg.rel g
      rw [k] at this ⊢
      simpa [Rel] using this
    · exact k w (hg.rel g), hg.exact⟩
  refine (h.2 vs w (hb w vs hH hv) (fun r o hr => by cases hr) hg0).mono fun e w' ⟨e', H', r, k1, k2, k3⟩ => ?_
  obtain ⟨v, rfl, hp⟩ := hR _ _ r
  have hE : Ext H w H w' := ⟨k3.os, k3.tape, k3.output, k3.size, fun b hb _ => k3.block b hb rfl, fun b hb => .inl hb, k3.keep, fun a ha _ => k3.fz a ha rfl⟩
  refine ⟨.ret v, H, ⟨⟨H', r⟩, rfl⟩, ?_, ?_, hE⟩
  · cases k1 with
    | ret d x hx => exact .ret _ _ (plain_rel _ _ hp hx)
  · intro r o ho
    rw [k3.block r (hH.lt (by simp [ho])) rfl]
    exact (hH r o ho).lasts hE.lasts

end
attribute [go_sem] fz.eq_1 fz.eq_2 fz.eq_3 fz.eq_4 fz.eq_5 fz.eq_6 fzs.eq_1 fzs.eq_2
theorem fz_bool (r : Nat) (cs : List DVal) (b : Bool) : fz r cs (.bool b) = .bool b := by simp [fz]
theorem fz_int (r : Nat) (cs : List DVal) (k : IntKind) (n : Int) : fz r cs (.int k n) = .int k n := by simp [fz]
theorem fz_str (r : Nat) (cs : List DVal) (b : List UInt8) : fz r cs (.str b) = .str b := by simp [fz]
theorem fz_nilSlice (r : Nat) (cs : List DVal) : fz r cs .nilSlice = .nilSlice := by simp [fz]
theorem fz_nilPtr (r : Nat) (cs : List DVal) : fz r cs .nilPtr = .nilPtr := by simp [fz]
theorem fz_nilMap (r : Nat) (cs : List DVal) : fz r cs .nilMap = .nilMap := by simp [fz]
theorem fz_nilFunc (r : Nat) (cs : List DVal) : fz r cs .nilFunc = .nilFunc := by simp [fz]
theorem fz_nilIface (r : Nat) (cs : List DVal) : fz r cs .nilIface = .nilIface := by simp [fz]
theorem fz_vslice (r : Nat) (cs : List DVal) (l : List DVal) (n : Nat) : fz r cs (.vslice l n) = .vslice (fzs r cs l) n := by simp [fz]
theorem fz_vptr (r : Nat) (cs : List DVal) (l : List DVal) (n : Nat) : fz r cs (.vptr l n) = .vptr (fzs r cs l) n := by simp [fz]
theorem fzs_map {α : Type} (r : Nat) (cs : List DVal) (f : α → DVal) (h : ∀ x, fz r cs (f x) = f x) (l : List α) : fzs r cs (l.map f) = l.map f := by
  induction l with
  | nil => simp [fzs]
  | cons x l ih => simp [fzs, h, ih]
theorem fzs_ints (r : Nat) (cs : List DVal) (l : List Int) : fzs r cs (l.map dI) = l.map dI := fzs_map r cs dI (fun _ => by simp [fz]) l
theorem fzs_intss (r : Nat) (cs : List DVal) (l : List (List Int)) : fzs r cs (l.map dIs) = l.map dIs := fzs_map r cs dIs (fun x => by simp [dIs, fz_vslice, fzs_ints]) l
attribute [go_sem] fzs_ints fzs_intss
theorem upd_undo {H : DHeap} {r : Nat} {o : DObj} (h : H r = none) : upd (upd H r (some o)) r none = H := upd_none_self h _
attribute [go_sem] fz_bool fz_int fz_str fz_nilSlice fz_nilPtr fz_nilMap fz_nilFunc fz_nilIface fz_vslice fz_vptr
end Go.Dl

-- THE DATA LEVEL, PART 8: loops over iterators, ready for use.
namespace Go.Dl
open Go Go.RowKit

theorem over_upd (Hi X : DHeap) (r r' : Nat) (o : DObj) : over Hi (upd X r (some o)) r' = if r' = r then some o else over Hi X r' := by
  by_cases e : r' = r <;> simp [over, upd, e]
theorem dbind_nil (env : Nat → DVal) (ds : List DVal) : dbind env [] ds = env := by cases ds <;> rfl
attribute [go_sem] over_upd upd_over over_h0 DThen.eq_1 DBodyQ.eq_1 DBodyQ.eq_2 DBodyQ.eq_3 DBodyQ.eq_4 dbind.eq_1 dbind_nil

theorem upd_upd {α : Type} (f : Nat → α) (r : Nat) (a b : α) : upd (upd f r a) r b = upd f r b := by
  funext i; simp only [upd]; split <;> rfl
/-- The store into block r1, told first. -/
theorem upd_swap {α : Type} {r1 r2 : Nat} (h : r1 ≠ r2) (f : Nat → α) (a b : α) : upd (upd f r2 b) r1 a = upd (upd f r1 a) r2 b := by
  funext i; simp only [upd]; by_cases e1 : i = r1 <;> by_cases e2 : i = r2 <;> simp_all
theorem splice_zero (xs ys : List DVal) : splice xs 0 ys = ys ++ xs.drop ys.length := by simp [splice]
theorem splice_succ (x : DVal) (xs ys : List DVal) (n : Nat) : splice (x :: xs) (n + 1) ys = x :: splice xs n ys := by
  simp [splice, Nat.add_right_comm]
attribute [go_sem] upd_upd splice_zero splice_succ

theorem Disj.st {Hi X : DHeap} (h : Disj Hi X) {r : Nat} {ob : DObj} (hr : X r = some ob) (o : Option DObj) : Disj Hi (upd X r o) := h.hi (h r (by simp [hr])) o

theorem DCalls.fzA {P : Program} {G : Nat → DVal} {f : FuncId} {args : List DVal} {H : DHeap} {R : DEnd → DHeap → Prop} (r : Nat) {cs : List DVal} {e : TypeId} (hr : H r = none) (h : DCalls P G f (fzs r cs args) H R) : DCalls P G f args (upd H r (some (.cells cs e))) R :=
  DCalls.fzArgs r (upd_same _ _ _) (by rw [upd_none_self hr]; exact h)
theorem DFin.fzA {R : DEnd → DHeap → Prop} {v : DVal} {H : DHeap} (r : Nat) {cs : List DVal} {e : TypeId} (hr : H r = none) (h : DFin R (Dl.fz r cs v) H) : DFin R v (upd H r (some (.cells cs e))) :=
  DFin.fz r (upd_same _ _ _) (by rw [upd_none_self hr]; exact h)
theorem DFin.dropA {R : DEnd → DHeap → Prop} {v : DVal} {H : DHeap} (r : Nat) {o : Option DObj} (hr : H r = none) (h : DFin R v H) : DFin R v (upd H r o) :=
  DFin.drop r (by rw [upd_none_self hr]; exact h)

theorem lasts_over (H X : DHeap) (w : World) : Lasts (over H X) w H w :=
  ⟨fun b i x hb hc => ⟨(over_eq_none.1 hb).1, hc⟩, Nat.le_refl _, fun _ _ => rfl⟩
theorem GhostE.over {H X : DHeap} (d : Disj H X) (v : DVal) : GhostE (over H X) v H v := fun w hw =>
  ⟨fun r o ho => by
    have hx : X r = none := d.x (by simp [ho])
    exact (hw r o (by rw [over_hi hx]; exact ho)).lasts (lasts_over H X w), fun b hb e => hb (over_eq_none.1 e).1, fun x hx => Rel.lasts (lasts_over H X w) _ _ hx⟩
/-- The part X is let go. -/
theorem DFin.over {R : DEnd → DHeap → Prop} {v : DVal} {H X : DHeap} (d : Disj H X) (h : R (.ret v) H) : DFin R v (over H X) := .ghost (.over d v) (.refl h)

section
variable {P : Program} {G : Nat → DVal} {N : Nat} {Q : DExit → DS → Prop}

/-- A region whose order is drawn, by a plan. -/
theorem dwp_draws {id : Nat} {ops : List Oper} {s : DS} (hm : P.follows .mixedOrders = true) (p : Plan) (hp : (ops.all (operOk N) && cover ops [] p && planOk ops p []) = true) (h : dplan P G ops (QP Q) p s) : dwp P G N (.region id ops.toArray true) Q s :=
  dwp_any (N := ⟨N, ⟨0, [], false⟩⟩) hm p (by simpa using hp) (by simpa using h)

/-- A loop over an iterator that has no memory of its own. -/
theorem dwp_range {g : Operand} {ps : List Tmp} {asg body : Code} {s : DS} (gf : FuncId) (captured : List DVal) (L : List (List DVal))
    (hit : DIter P G gf captured h0 L) (hg : dev G s.env g = .func (.func gf) [] captured)
    (hok : (opdOk N g && codeOk N asg && codeOk N body && flat asg && flat body) = true) (hL : ∀ x ∈ L, x.length = ps.length)
    (Hi X : DHeap) (hs : s.heap = over Hi X) (d1 : Disj Hi X)
    (I : Nat → DHeap → Prop) (Ix : Code → DHeap → Prop) (i0 : I 0 X)
    (hbody : ∀ k x Hi X, Disj Hi X → L[k]? = some x → I k X → dwp P G N asg (DThen (dwp P G N body (DBodyQ Hi (I (k + 1)) Ix))) ⟨dbind s.env ps x, over Hi X⟩)
    (hdone : ∀ X, Disj Hi X → I L.length X → Q .normal ⟨s.env, over Hi X⟩)
    (hexit : ∀ c X, Disj Hi X → Ix c X → DJump Q c ⟨s.env, over Hi X⟩) : dwp P G N (.rangeFunc g ps.toArray asg body) Q s := by
  simp only [dwp]
  exact dwp0_range hg hok hit (by simpa using hL) Hi X (by rw [hs, over_h0]) d1 (Disj.h0 _) (fun r hr => rfl) I Ix i0 (fun k x Hi X a b c => by simpa using hbody k x Hi X a b c) hdone hexit

end
end Go.Dl

-- THE DATA LEVEL, PART 9: slices that are built up; plain lists seen as slices.
namespace Go.Dl
open Go Go.RowKit

/-- The call returns v; nothing else turns. -/
abbrev DRet (v : DVal) (H : DHeap) : DEnd → DHeap → Prop := fun e H' => e = .ret v ∧ H' = H

/-- v is nil (and then there are no cells), or a slice over a whole block of the call's own, of n elements, whose cells are cs; H' is H with that block. -/
def OwnA (H : DHeap) (e : TypeId) (size n : Nat) (cs : List DVal) (v : DVal) (H' : DHeap) : Prop :=
  (n = 0 ∧ cs = [] ∧ v = .nilSlice ∧ H' = H) ∨ ∃ r, H r = none ∧ cs.length = n * size ∧ v = .oslice size r 0 n n ∧ H' = upd H r (some (.cells cs e))

section
variable {P : Program} {G : Nat → DVal} {Q : DExit → DS → Prop}

theorem OwnA.nil (H : DHeap) (e : TypeId) (size : Nat) : OwnA H e size 0 [] .nilSlice H := .inl ⟨rfl, rfl, rfl, rfl⟩

theorem upd_self {α : Type} {f : Nat → α} {r : Nat} {x : α} (h : f r = x) : upd f r x = f := by
  funext i; simp only [upd]; split
  · rename_i e; rw [e, h]
  · rfl

theorem dAppendO_in {e : TypeId} {size bytes r off len lo n : Nat} {news : List DVal} {dst : Option Nat} {K : DK} {s : DS} {cs : List DVal} (h : len + n ≤ lo) :
    dAppendO e size bytes r off len lo n news dst K s (some (.cells cs e)) = (off + (len + n) * size ≤ cs.length ∧
        K ⟨updO s.env dst (.oslice size r off (len + n) lo), upd s.heap r (some (.cells (splice cs (off + len * size) news) e))⟩) := by
  simp only [dAppendO, true_and, eq_iff_iff]
  exact ⟨fun k => k.1 h, fun k => ⟨fun _ => k, fun hn => (hn h).elim⟩⟩

theorem dAppendO_out {e : TypeId} {size bytes r len lo n : Nat} {news : List DVal} {dst : Option Nat} {K : DK} {s : DS} {cs : List DVal} (hle : len ≤ lo) (h : lo < len + n) :
    dAppendO e size bytes r 0 len lo n news dst K s (some (.cells cs e)) = (len * size ≤ cs.length ∧ (len + n) * bytes ≤ 35184372088832 ∧ ∀ r', upd s.heap r none r' = none →
        K ⟨updO s.env dst (.oslice size r' 0 (len + n) (len + n)), upd (upd s.heap r none) r' (some (.cells (cs.take (len * size) ++ news) e))⟩) := by
  simp only [dAppendO, true_and, eq_iff_iff, hle, true_or, if_true]
  have hn : ¬ len + n ≤ lo := by omega
  refine ⟨fun k => ?_, fun k => ⟨fun hh => (hn hh).elim, fun _ => ?_⟩⟩
  · obtain ⟨k1, k2, k3⟩ := k.2 hn
    refine ⟨by omega, k2, fun r' hr => ?_⟩
    have := k3 r' [] hr (fun _ => rfl)
    simpa using this
  · obtain ⟨k1, k2, k3⟩ := k
    refine ⟨by omega, k2, fun r' pre hr hp => ?_⟩
    have hpre := hp trivial
    subst hpre
    have := k3 r' hr
    simpa using this

/-- append where less room is known than there are elements: the old block stays (longer, if it grew in place). -/
theorem dAppendO_keep {e : TypeId} {size bytes r len lo n : Nat} {news : List DVal} {dst : Option Nat} {K : DK} {s : DS} {cs : List DVal} (h : lo < len) (hl : len * size ≤ cs.length) (hb : (len + n) * bytes ≤ 35184372088832)
    (hK : ∀ r', r' = r ∨ s.heap r' = none → K ⟨updO s.env dst (.oslice size r' 0 (len + n) (len + n)), upd s.heap r' (some (.cells (cs.take (len * size) ++ news) e))⟩) : dAppendO e size bytes r 0 len lo n news dst K s (some (.cells cs e)) := by
  simp only [dAppendO, true_and]
  have hn : ¬ len + n ≤ lo := by omega
  refine ⟨fun k => (hn k).elim, fun _ => ⟨by omega, hb, fun r' pre hr hp => ?_⟩⟩
  have hpre := hp trivial
  subst hpre
  by_cases e1 : r' = r
  · subst e1
    have := hK r' (.inl rfl)
    rw [if_pos (.inr rfl), upd_upd]
    simpa using this
  · have := hK r' (.inr (by simpa [upd, e1] using hr))
    rw [if_neg (by omega)]
    simpa using this

/-- **append** to a slice that is being built up. -/
theorem OwnA.append {H H0 : DHeap} {e : TypeId} {size bytes n m : Nat} {cs news : List DVal} {v : DVal} {dst : Option Nat} {K : DK} {env : Nat → DVal} (hv : OwnA H e size n cs v H0) (hm : news.length = m * size) (hb : (n + m) * bytes ≤ 35184372088832)
    (hK : ∀ v' H', OwnA H e size (n + m) (cs ++ news) v' H' → K ⟨updO env dst v', H'⟩) : dAppendTo e size bytes m news dst v K ⟨env, H0⟩ := by
  rcases hv with ⟨rfl, rfl, rfl, rfl⟩ | ⟨r, hr, hl, rfl, rfl⟩
  · simp only [dAppendTo]
    refine ⟨fun h0 => ?_, fun h0 => ⟨by simpa using hb, fun r hr => ?_⟩⟩
    · subst h0
      have : news = [] := List.length_eq_zero_iff.1 (by omega)
      subst this
      exact hK _ _ (.inl ⟨rfl, rfl, rfl, rfl⟩)
    · refine hK _ _ (.inr ⟨r, hr, by simpa using hm, by simp, by simp⟩)
  · simp only [dAppendTo, true_and]
    rw [upd_same]
    by_cases h0 : m = 0
    · subst h0
      have : news = [] := List.length_eq_zero_iff.1 (by omega)
      subst this
      rw [dAppendO_in (by omega)]
      refine ⟨by simp [hl], ?_⟩
      have := hK (.oslice size r 0 (n + 0) n) (upd H r (some (.cells cs e))) (.inr ⟨r, hr, by simpa using hl, by simp, by simp⟩)
      simp only [splice, List.length_nil, List.append_nil, Nat.add_zero, List.take_append_drop, upd_upd]
      simpa using this
    · rw [dAppendO_out (by omega) (by omega)]
      refine ⟨by omega, hb, fun r' hr' => ?_⟩
      have hu : upd (upd H r (some (.cells cs e))) r none = H := upd_none_self hr _
      simp only [hu] at hr' ⊢
      refine hK _ _ (.inr ⟨r', hr', ?_, rfl, ?_⟩)
      · simp [hl, hm, Nat.add_mul]
      · rw [List.take_of_length_le (by omega)]

theorem GhostE.slice {H : DHeap} {e : TypeId} {size n lo : Nat} {cs rest : List DVal} {r : Nat} (hr : H r = none) (hl : cs.length = n * size) : GhostE (upd H r (some (.cells (cs ++ rest) e))) (.oslice size r 0 n lo) H (.vslice cs n) := by
  have := GhostE.fz (v := .oslice size r 0 n lo) (upd_same H r (some (.cells (cs ++ rest) e)))
  rw [upd_none_self hr] at this
  simp only [Dl.fz, if_pos, List.drop_zero] at this
  rw [ List.take_append_of_le_length (by omega), List.take_of_length_le (by omega)] at this
  exact this

/-- The same, with spare room behind. -/
def OwnB (H : DHeap) (e : TypeId) (size n : Nat) (cs : List DVal) (v : DVal) (H' : DHeap) : Prop :=
  (n = 0 ∧ cs = [] ∧ v = .nilSlice ∧ H' = H) ∨ ∃ r lo rest, H r = none ∧ cs.length = n * size ∧ v = .oslice size r 0 n lo ∧ H' = upd H r (some (.cells (cs ++ rest) e))
theorem OwnA.b {H H0 : DHeap} {e : TypeId} {size n : Nat} {cs : List DVal} {v : DVal} (hv : OwnA H e size n cs v H0) : OwnB H e size n cs v H0 := by
  rcases hv with h | ⟨r, hr, hl, h1, h2⟩
  · exact .inl h
  · exact .inr ⟨r, n, [], hr, hl, h1, by simpa using h2⟩
theorem OwnB.ghost {H H0 : DHeap} {e : TypeId} {size n : Nat} {cs : List DVal} {v : DVal} (hv : OwnB H e size n cs v H0) : GhostE H0 v H (.vslice cs n) := by
  rcases hv with ⟨rfl, rfl, rfl, rfl⟩ | ⟨r, lo, rest, hr, hl, rfl, rfl⟩
  · intro w hw
    refine ⟨hw, fun _ h => h, fun x hx => ?_⟩
    simp only [Rel] at hx ⊢
    exact ⟨none, 0, hx, Nat.le_refl _, .inl (by simp)⟩
  · exact .slice hr hl
theorem DCalls.frozenB {f : FuncId} {args : List DVal} {H : DHeap} {e : TypeId} {size n : Nat} {cs : List DVal} (h : DCalls P G f args H fun x H' => ∃ v, x = .ret v ∧ OwnB H e size n cs v H') : DCalls P G f args H (DRet (.vslice cs n) H) :=
  h.ghost fun x H' ⟨v, h1, h2⟩ => ⟨v, _, H, h1, h2.ghost, rfl, rfl⟩

/-- Seen as memory that lasts. -/
theorem OwnA.ghost {H H0 : DHeap} {e : TypeId} {size n : Nat} {cs : List DVal} {v : DVal} (hv : OwnA H e size n cs v H0) : GhostE H0 v H (.vslice cs n) := by
  rcases hv with ⟨rfl, rfl, rfl, rfl⟩ | ⟨r, hr, hl, rfl, rfl⟩
  · intro w hw
    refine ⟨hw, fun _ h => h, fun x hx => ?_⟩
    simp only [Rel] at hx ⊢
    exact ⟨none, 0, hx, Nat.le_refl _, .inl (by simp)⟩
  · have := GhostE.fz (v := .oslice size r 0 n n) (upd_same H r (some (.cells cs e)))
    rw [upd_none_self hr] at this
    simp only [fz, if_pos, List.drop_zero] at this
    rw [List.take_of_length_le (by omega)] at this
    exact this

theorem OwnA.fin {R : DEnd → DHeap → Prop} {H H0 : DHeap} {e : TypeId} {size n : Nat} {cs : List DVal} {v : DVal} (hv : OwnA H e size n cs v H0) (h : R (.ret (.vslice cs n)) H) : DFin R v H0 := .ghost hv.ghost (.refl h)

/-- A result that is the call's own, seen as memory that lasts. -/
theorem DCalls.frozen {f : FuncId} {args : List DVal} {H : DHeap} {e : TypeId} {size n : Nat} {cs : List DVal} (h : DCalls P G f args H fun x H' => ∃ v, x = .ret v ∧ OwnA H e size n cs v H') : DCalls P G f args H (DRet (.vslice cs n) H) :=
  h.ghost fun x H' ⟨v, h1, h2⟩ => ⟨v, _, H, h1, h2.ghost, rfl, rfl⟩

end

/-- Whatever d describes, d' describes. -/
def DLe (d d' : DVal) : Prop := ∀ (w : World) (H : DHeap) (x : Value), Rel w H d x → Rel w H d' x
def DLes (ds ds' : List DVal) : Prop := ∀ (w : World) (H : DHeap) (x : List Value), RelL w H ds x → RelL w H ds' x
theorem DLe.refl (d : DVal) : DLe d d := fun _ _ _ h => h
theorem DLes.nil : DLes [] [] := fun _ _ _ h => h
theorem DLes.refl (ds : List DVal) : DLes ds ds := fun _ _ _ h => h
theorem DLes.cons {d d' : DVal} {ds ds' : List DVal} (h : DLe d d') (k : DLes ds ds') : DLes (d :: ds) (d' :: ds') := fun w H x hx => by
  simp only [RelL] at hx ⊢
  obtain ⟨y, ys, rfl, h1, h2⟩ := hx
  exact ⟨y, ys, rfl, h _ _ _ h1, k _ _ _ h2⟩
theorem DLe.nil : DLe .nilSlice (.vslice [] 0) := fun w H x hx => by
  simp only [Rel] at hx ⊢
  exact ⟨none, 0, hx, Nat.le_refl _, .inl (by simp)⟩
theorem DLe.vslice {cs cs' : List DVal} (n : Nat) (h : DLes cs cs') : DLe (.vslice cs n) (.vslice cs' n) := fun w H x hx => by
  simp only [Rel] at hx ⊢
  obtain ⟨a, cap, rfl, hle, h1⟩ := hx
  refine ⟨a, cap, rfl, hle, ?_⟩
  rcases h1 with rfl | ⟨b, o, xs, rfl, h1, h2⟩
  · have := h w H [] (by simp [RelL])
    cases cs' with
    | nil => exact .inl rfl
    | cons c cs' => simp [RelL] at this
  · exact .inr ⟨b, o, xs, rfl, h1, h _ _ _ h2⟩
theorem DLe.tuple {cs cs' : List DVal} (h : DLes cs cs') : DLe (.tuple cs) (.tuple cs') := fun w H x hx => by
  simp only [Rel] at hx ⊢
  obtain ⟨xs, rfl, h1⟩ := hx
  exact ⟨xs, rfl, h _ _ _ h1⟩
theorem DLe.agg {cs cs' : List DVal} (h : DLes cs cs') : DLe (.agg cs) (.agg cs') := fun w H x hx => by
  simp only [Rel] at hx ⊢
  obtain ⟨xs, rfl, h1⟩ := hx
  exact ⟨xs, rfl, h _ _ _ h1⟩
theorem DLes.nils (n : Nat) : DLes (List.replicate n .nilSlice) (List.replicate n (.vslice [] 0)) := by
  induction n with
  | zero => exact DLes.nil
  | succ n ih => simp only [List.replicate_succ]; exact .cons .nil ih
theorem DFin.le {R : DEnd → DHeap → Prop} {v v' : DVal} {H : DHeap} (g : DLe v v') (h : DFin R v' H) : DFin R v H := .ghost (fun w hw => ⟨hw, fun _ h => h, fun x hx => g _ _ _ hx⟩) h
theorem DCalls.le {P : Program} {G : Nat → DVal} {f : FuncId} {args : List DVal} {H : DHeap} {v v' : DVal} (g : DLe v v') (h : DCalls P G f args H (DRet v H)) : DCalls P G f args H (DRet v' H) :=
  h.ghost fun x H' ⟨h1, h2⟩ => ⟨v, v', H, h1, fun w hw => by rw [h2] at hw ⊢; exact ⟨hw, fun _ h => h, fun x hx => g _ _ _ hx⟩, rfl, rfl⟩

/-- Block r is seen as memory that lasts, in the slots and in block ro. -/
theorem GhostS.fz2 {G : Nat → DVal} {s : DS} {r ro : Nat} {cs cso : List DVal} {e eo : TypeId} (hr : s.heap r = some (.cells cs e)) (ho : s.heap ro = some (.cells cso eo)) (hne : ro ≠ r) :
    GhostS G s ⟨fun i => Dl.fz r cs (s.env i), upd (upd s.heap r none) ro (some (.cells (fzs r cs cso) eo))⟩ := by
  intro w hH hG
  have hl1 := lasts_letGo s.heap r w
  have hl2 : Lasts (upd s.heap r none) w (upd (upd s.heap r none) ro (some (.cells (fzs r cs cso) eo))) w := by
    refine ⟨fun b i x hb hc => ⟨?_, hc⟩, Nat.le_refl _, fun _ _ => rfl⟩
    by_cases e : b = ro
    · subst e; simp only [upd, if_neg hne] at hb; rw [ho] at hb; cases hb
    · simp only [upd, if_neg e] at hb ⊢; exact hb
  refine ⟨?_, ?_, (hG.lasts hl1).lasts hl2, fun i x hx => (fz_rel hH hr _ _ hx).lasts hl2⟩
  · intro b o hb
    by_cases e : b = ro
    · subst e
      simp only [upd, if_pos] at hb; cases hb
      obtain ⟨xs, c, fz', h1, h2, h3, h4⟩ := hH _ _ ho
      exact ⟨xs, c, fz', h1, h2, (fzs_rel hH hr _ _ h3).lasts hl2, h4⟩
    · simp only [upd, if_neg e] at hb
      split at hb
      · cases hb
      · exact ((hH b o hb).lasts hl1).lasts hl2
  · intro b hb
    by_cases e : b = ro
    · subst e; rw [ho]; simp
    · simp only [upd, if_neg e] at hb
      split at hb
      · exact absurd rfl hb
      · exact hb

/-- Another block beside it. -/
theorem OwnA.frame {H H' : DHeap} {e : TypeId} {size n : Nat} {cs : List DVal} {v : DVal} (h : OwnA H e size n cs v H') {r : Nat} (hr : H' r = none) (o : DObj) : OwnA (upd H r (some o)) e size n cs v (upd H' r (some o)) ∧ H r = none := by
  rcases h with ⟨a, b, c, rfl⟩ | ⟨r0, a, b, c, rfl⟩
  · exact ⟨.inl ⟨a, b, c, rfl⟩, hr⟩
  · rw [upd_eq_none] at hr
    exact ⟨.inr ⟨r0, by simp [upd, hr, a], b, c, upd_swap hr.1 _ _ _⟩, hr.2.2⟩
theorem OwnA.unframe {H H' : DHeap} {e : TypeId} {size n : Nat} {cs : List DVal} {v : DVal} {r : Nat} {o : DObj} (h : OwnA (upd H r (some o)) e size n cs v H') (hr : H r = none) : OwnA H e size n cs v (upd H' r none) := by
  rcases h with ⟨a, b, c, rfl⟩ | ⟨r0, a, b, c, rfl⟩
  · exact .inl ⟨a, b, c, upd_none_self hr _⟩
  · rw [upd_eq_none] at a
    refine .inr ⟨r0, a.2.2, b, c, ?_⟩
    rw [upd_swap a.2.1, upd_none_self hr]
theorem GhostS.drop {G : Nat → DVal} (s : DS) (r : Nat) : GhostS G s ⟨s.env, upd s.heap r none⟩ := fun w hH hG =>
  ⟨hH.letGo r, fun b hb => by simp only [upd] at hb; split at hb <;> simp_all, hG.lasts (lasts_letGo _ r w), fun i x hx => Rel.lasts (lasts_letGo _ r w) _ _ hx⟩
theorem OwnA.ghostT {H H0 : DHeap} {e : TypeId} {size n : Nat} {cs : List DVal} {v : DVal} (hv : OwnA H e size n cs v H0) {ds : List DVal} (hd : ∀ r cs, fzs r cs ds = ds) : GhostE H0 (.tuple (v :: ds)) H (.tuple (.vslice cs n :: ds)) := by
  rcases hv with ⟨rfl, rfl, rfl, rfl⟩ | ⟨r, hr, hl, rfl, rfl⟩
  · exact fun w hw => ⟨hw, fun _ h => h, fun x hx => DLe.tuple (.cons .nil (.refl _)) _ _ _ hx⟩
  · have := GhostE.fz (v := .tuple (.oslice size r 0 n n :: ds)) (upd_same H r (some (.cells cs e)))
    rw [upd_none_self hr] at this
    simp only [Dl.fz, fzs, if_pos, List.drop_zero, hd] at this
    rw [List.take_of_length_le (by omega)] at this
    exact this

theorem GhostS.trans {G : Nat → DVal} {s s' s'' : DS} (h : GhostS G s s') (k : GhostS G s' s'') : GhostS G s s'' := fun w hH hG => by
  obtain ⟨h1, h2, h3, h4⟩ := h w hH hG
  obtain ⟨k1, k2, k3, k4⟩ := k w h1 h3
  exact ⟨k1, fun b hb => h2 b (k2 b hb), k3, fun i x hx => k4 i x (h4 i x hx)⟩

/-- A slice that has got a slice of the call's own (block rx) by way of block rc: both are let go, the new element is seen as memory that lasts. -/
theorem OwnA.settle {G : Nat → DVal} {H H' : DHeap} {e ex : TypeId} {k n lo : Nat} {cs cx : List DVal} {v : DVal} {rx rc : Nat} {oc : DObj} (h : OwnA (upd (upd H rx (some (.cells cx ex))) rc (some oc)) e 1 (k + 1) (cs ++ [.oslice 1 rx 0 n lo]) v H')
    (hx : H rx = none) (hc : H rc = none) (hne : rc ≠ rx) (hcs : fzs rx cx cs = cs) (hn : cx.length = n) :
    ∃ H'', (∀ env, GhostS G ⟨env, H'⟩ ⟨fun i => Dl.fz rx cx (env i), H''⟩) ∧ OwnA H e 1 (k + 1) (cs ++ [.vslice cx n]) v H'' ∧ Dl.fz rx cx v = v := by
  rcases h with ⟨a, _⟩ | ⟨ro, a, b, rfl, rfl⟩
  · omega
  · rw [upd_eq_none] at a
    obtain ⟨a1, a2, a3⟩ := a
    rw [upd_eq_none] at a3
    obtain ⟨a4, a5, a6⟩ := a3
    have hfz : fzs rx cx (cs ++ [.oslice 1 rx 0 n lo]) = cs ++ [.vslice cx n] := by
      have happ : ∀ (l m : List DVal), fzs rx cx (l ++ m) = fzs rx cx l ++ fzs rx cx m := fun l m => by
        induction l with
        | nil => simp [fzs]
        | cons d l ih => simp [fzs, ih]
      rw [happ, hcs]
      simp only [fzs, Dl.fz, if_pos, List.drop_zero, Nat.mul_one]
      rw [List.take_of_length_le (by omega)]
    refine ⟨upd (upd (upd (upd (upd (upd H rx (some (.cells cx ex))) rc (some oc)) ro (some (.cells (cs ++ [.oslice 1 rx 0 n lo]) e))) rx none) ro (some (.cells (cs ++ [.vslice cx n]) e))) rc none, fun env => ?_, ?_, ?_⟩
    · refine GhostS.trans (GhostS.fz2 (r := rx) (ro := ro) (cs := cx) (cso := cs ++ [.oslice 1 rx 0 n lo]) (e := ex) (eo := e) (by simp [upd, a5, hne.symm]) (by simp [upd]) a4) ?_
      rw [hfz]
      exact GhostS.drop _ rc
    · refine .inr ⟨ro, a6, by simp at b ⊢; omega, rfl, ?_⟩
      funext i
      simp only [upd]
      by_cases e1 : i = rc
      · subst e1; simp [hc, a2]
      · by_cases e2 : i = ro
        · subst e2; simp [a1]
        · by_cases e3 : i = rx
          · subst e3; simp [e1, e2, hx]
          · simp [e1, e2, e3]
    · simp only [Dl.fz, if_neg a4]

theorem sub_none {H H' : DHeap} (h : ∀ r o, H' r = some o → H r = some o) {b : Nat} (hb : H b = none) : H' b = none := by
  cases e : H' b with
  | none => rfl
  | some o => rw [h b o e] at hb; cases hb
theorem lasts_sub {H H' : DHeap} (h : ∀ r o, H' r = some o → H r = some o) (w : World) : Lasts H w H' w :=
  ⟨fun b i x hb hc => ⟨sub_none h hb, hc⟩, Nat.le_refl _, fun _ _ => rfl⟩
theorem GhostE.sub {H H' : DHeap} (h : ∀ r o, H' r = some o → H r = some o) (v : DVal) : GhostE H v H' v := fun w hw =>
  ⟨fun r o ho => (hw r o (h r o ho)).lasts (lasts_sub h w), fun b hb e => hb (sub_none h e), fun x hx => Rel.lasts (lasts_sub h w) _ _ hx⟩
/-- Some blocks are let go. -/
theorem DFin.sub {R : DEnd → DHeap → Prop} {v : DVal} {H H' : DHeap} (h : ∀ r o, H' r = some o → H r = some o) (k : DFin R v H') : DFin R v H := .ghost (.sub h v) k
theorem GhostS.sub {G : Nat → DVal} {s : DS} {H' : DHeap} (h : ∀ r o, H' r = some o → s.heap r = some o) : GhostS G s ⟨s.env, H'⟩ := fun w hH hG =>
  ⟨fun r o ho => (hH r o (h r o ho)).lasts (lasts_sub h w), fun b hb e => hb (sub_none h e), hG.lasts (lasts_sub h w), fun i x hx => Rel.lasts (lasts_sub h w) _ _ hx⟩
theorem none_ne {α : Type} {H : Nat → Option α} {a b : Nat} {o : α} (ha : H a = none) (hb : H b = some o) : b ≠ a := fun e => by rw [e, ha] at hb; cases hb

theorem fzs_append (r : Nat) (cs : List DVal) (l m : List DVal) : fzs r cs (l ++ m) = fzs r cs l ++ fzs r cs m := by
  induction l with
  | nil => simp [fzs]
  | cons d l ih => simp [fzs, ih]
theorem DLes.append {a a' b b' : List DVal} (h : DLes a a') (k : DLes b b') : DLes (a ++ b) (a' ++ b') := fun w H x hx => by
  have hl := hx.length
  have e : x = x.take a.length ++ x.drop a.length := (List.take_append_drop _ _).symm
  have h1 := hx.take a.length
  have h2 := hx.drop a.length
  rw [List.take_left] at h1
  rw [List.drop_left] at h2
  rw [e]
  exact (h _ _ _ h1).append (k _ _ _ h2)
/-- Among arguments. -/
theorem OwnA.ghostA {H H0 : DHeap} {e : TypeId} {size n : Nat} {cs : List DVal} {v : DVal} (hv : OwnA H e size n cs v H0) {ds ds' : List DVal} (hd : ∀ r cs, fzs r cs ds = ds) (hd' : ∀ r cs, fzs r cs ds' = ds') : GhostE H0 (.tuple (ds ++ v :: ds')) H (.tuple (ds ++ .vslice cs n :: ds')) := by
  rcases hv with ⟨rfl, rfl, rfl, rfl⟩ | ⟨r, hr, hl, rfl, rfl⟩
  · exact fun w hw => ⟨hw, fun _ h => h, fun x hx => DLe.tuple (DLes.append (.refl _) (.cons .nil (.refl _))) _ _ _ hx⟩
  · have := GhostE.fz (v := .tuple (ds ++ .oslice size r 0 n n :: ds')) (upd_same H r (some (.cells cs e)))
    rw [upd_none_self hr] at this
    simp only [Dl.fz, fzs_append, fzs, if_pos, List.drop_zero, hd, hd'] at this
    rw [List.take_of_length_le (by omega)] at this
    exact this

theorem DCalls.leArgs {P : Program} {G : Nat → DVal} {f : FuncId} {args args' : List DVal} {H : DHeap} {R : DEnd → DHeap → Prop} (g : DLes args args') (h : DCalls P G f args' H R) : DCalls P G f args H R :=
  .pre (fun w hw => ⟨hw, fun _ h => h, fun x hx => DLe.tuple g _ _ _ hx⟩) h

theorem one_all {α : Type} (f : α → DVal) (h : ∀ x, (f x).one = true) (l : List α) : (l.map f).all (fun d => d.one) = true := by
  induction l with
  | nil => rfl
  | cons x l ih => simp [h, ih]
theorem ints_one (l : List Int) : (l.map dI).all (fun d => d.one) = true := one_all dI (fun _ => rfl) l
theorem intss_one (l : List (List Int)) : (l.map dIs).all (fun d => d.one) = true := one_all dIs (fun _ => rfl) l
theorem take_map_len {α : Type} (f : α → DVal) (l : List α) : (l.map f).take l.length = l.map f := by
  rw [List.take_of_length_le (by simp)]
theorem optAll_some {α : Type} (p : α → Bool) (x : α) : Option.all p (some x) = p x := rfl
attribute [go_sem] dAppendO_in dAppendO_out ints_one intss_one take_map_len optAll_some
end Go.Dl

-- THE READING, PART 4: an argument, as the data level sees it; a law's contract.
namespace Go.Dl
open Go Go.RowKit

section
variable {P : Program} {H : Type} {w : World}

theorem okWide_cells {r : Reach} {base : Nat} {t : TypeId} {v : Value} {d : TypeDesc} (hu : P.underlying t = some d) (hd : (∃ e, d = .slice e) ∨ (∃ k, d = .int k) ∨ d = .bool ∨ d = .string) (h : Value.okWide P w r base t v) : v.cells = #[v] := by
  unfold Value.okWide at h
  rw [hu] at h
  cases v <;> first | rfl | skip
  rename_i xs
  rcases hd with ⟨e, rfl⟩ | ⟨k, rfl⟩ | rfl | rfl <;> (unfold Cell.okWide at h; rw [hu] at h; simp [Cell.ok, hu] at h)

theorem cells_slice1 {r : Reach} {base : Nat} {t e : TypeId} {v : Value} (hu : P.underlying t = some (.slice e)) (h : Value.okWide P w r base t v) : v.cells = #[v] := okWide_cells hu (.inl ⟨_, rfl⟩) h
theorem cells_int1 {r : Reach} {base : Nat} {t : TypeId} {k : IntKind} {v : Value} (hu : P.underlying t = some (.int k)) (h : Value.okWide P w r base t v) : v.cells = #[v] := okWide_cells hu (.inr (.inl ⟨_, rfl⟩)) h
theorem cells_bool1 {r : Reach} {base : Nat} {t : TypeId} {v : Value} (hu : P.underlying t = some .bool) (h : Value.okWide P w r base t v) : v.cells = #[v] := okWide_cells hu (.inr (.inr (.inl rfl))) h
theorem cells_str1 {r : Reach} {base : Nat} {t : TypeId} {v : Value} (hu : P.underlying t = some .string) (h : Value.okWide P w r base t v) : v.cells = #[v] := okWide_cells hu (.inr (.inr (.inr rfl))) h

theorem arg_of {t : TypeId} {α : Type} {f : α → DVal} {g : α → DataW H → Prop} (hr : Reads P H w t α (fun x => [f x]) g) {enc : TypeId × Value → H} {base : Nat} {sp : Nat → Bool} {held : Bool} {v : Value} {d : DataW H} {ps : List MemPlace}
    (h : DataW.Trod enc P w base sp held t v d ps) (hv : v.cells = #[v]) : ∃ x, g x d ∧ Rel w (fun _ => none) (f x) v := by
  obtain ⟨fuel, h⟩ := h
  rw [hv] at h
  obtain ⟨x, hg, hx⟩ := hr _ _ _ _ _ _ _ _ h
  exact ⟨x, hg, hx.one⟩

end
end Go.Dl

-- THE READING, PART 5: the bound on what is read, at plain data.
namespace Go.Dl
open Go Go.RowKit Go.Proofs.Ytbgelenonjfajaa

section
variable {H : Type}

theorem bulk_one (d : DataW H) : 1 ≤ Rows.uptoBulk d := by
  cases d
  case lit l => cases l <;> simp only [Rows.uptoBulk] <;> omega
  all_goals simp only [Rows.uptoBulk]
  all_goals omega

theorem bulk_small {l : List (DataW H)} (h : Rows.uptoSmall H l = true) : Rows.uptoBulkAll l ≤ 1048576 := of_decide_eq_true h
theorem bulk_app (l r : List (DataW H)) : Rows.uptoBulkAll (l ++ r) = Rows.uptoBulkAll l + Rows.uptoBulkAll r := by
  induction l with
  | nil => simp [Rows.uptoBulkAll]
  | cons d l ih => simp only [List.cons_append, Rows.uptoBulkAll, ih]; omega

theorem bulk_len {α : Type} {g : α → DataW H → Prop} : ∀ {xs : List α} {ds : List (DataW H)}, AllG g xs ds → xs.length ≤ Rows.uptoBulkAll ds
  | [], [], _ => by simp
  | [], _ :: _, h => h.elim
  | _ :: _, [], h => h.elim
  | x :: xs, d :: ds, h => by
    have := bulk_len h.2
    have := bulk_one d
    simp only [List.length_cons, Rows.uptoBulkAll]; omega

theorem bulk_sum {α : Type} {g : α → DataW H → Prop} (m : α → Nat) (hm : ∀ x d, g x d → m x + 1 ≤ Rows.uptoBulk d) : ∀ {xs : List α} {ds : List (DataW H)}, AllG g xs ds → (xs.map m).sum + xs.length ≤ Rows.uptoBulkAll ds
  | [], [], _ => by simp
  | [], _ :: _, h => h.elim
  | _ :: _, [], h => h.elim
  | x :: xs, d :: ds, h => by
    have := bulk_sum m hm h.2
    have := hm x d h.1
    simp only [List.map_cons, List.sum_cons, List.length_cons, Rows.uptoBulkAll]; omega

/-- What was read as a slice of x's. -/
def SlG {α : Type} (g : α → DataW H → Prop) (xs : List α) (d : DataW H) : Prop := (d = .nil ∧ xs = []) ∨ ∃ es sp, d = .slice es sp ∧ xs.length ≤ maxLen ∧ AllG g xs es

theorem bulk_sl {α : Type} {g : α → DataW H → Prop} {xs : List α} {d : DataW H} (h : SlG g xs d) : xs.length + 1 ≤ Rows.uptoBulk d := by
  rcases h with ⟨rfl, rfl⟩ | ⟨es, sp, rfl, _, h⟩
  · simp [Rows.uptoBulk]
  · have := bulk_len h
    simp only [Rows.uptoBulk]; omega
theorem bulk_slsum {α : Type} {g : α → DataW H → Prop} (m : α → Nat) (hm : ∀ x d, g x d → m x + 1 ≤ Rows.uptoBulk d) {xs : List α} {d : DataW H} (h : SlG g xs d) : (xs.map m).sum + xs.length + 1 ≤ Rows.uptoBulk d := by
  rcases h with ⟨rfl, rfl⟩ | ⟨es, sp, rfl, _, h⟩
  · simp [Rows.uptoBulk]
  · have := bulk_sum m hm h
    simp only [Rows.uptoBulk]; omega

theorem le_sum {l : List Nat} {x : Nat} (h : x ∈ l) : x ≤ l.sum := by
  induction l with
  | nil => cases h
  | cons y l ih =>
    rw [List.sum_cons]
    rcases List.mem_cons.1 h with rfl | h
    · omega
    · have := ih h; omega

end

theorem flatMap_one {α : Type} (f : α → DVal) (l : List α) : l.flatMap (fun x => [f x]) = l.map f := by
  induction l with
  | nil => rfl
  | cons x l ih => simp [ih]

section
variable {P : Program} {H : Type} {w : World}
theorem reads_ints {t e : TypeId} (ht : P.underlying t = some (.slice e)) (he : P.underlying e = some (.int .i64)) : Reads P H w t (List Int) (fun l => [dIs l]) (SlG fun n d => (Lit.int .i64 n).wf = true ∧ d = .lit (.int .i64 n)) := by
  have := reads_slice (H := H) (w := w) ht (reads_int he)
  intro enc base sp held fuel cs d ps h
  obtain ⟨xs, hg, hr⟩ := this enc base sp held fuel cs d ps h
  refine ⟨xs, hg, ?_⟩
  have hr' : RelL w (fun _ => none) [.vslice (xs.flatMap (fun n => [DVal.int .i64 n])) xs.length] cs := hr
  rw [flatMap_one] at hr'; exact hr'
theorem reads_bools {t e : TypeId} (ht : P.underlying t = some (.slice e)) (he : P.underlying e = some .bool) : Reads P H w t (List Bool) (fun l => [.vslice (l.map .bool) l.length]) (SlG fun b d => d = .lit (.bool b)) := by
  have := reads_slice (H := H) (w := w) ht (reads_bool he)
  intro enc base sp held fuel cs d ps h
  obtain ⟨xs, hg, hr⟩ := this enc base sp held fuel cs d ps h
  refine ⟨xs, hg, ?_⟩
  have hr' : RelL w (fun _ => none) [.vslice (xs.flatMap (fun n => [DVal.bool n])) xs.length] cs := hr
  rw [flatMap_one] at hr'; exact hr'
theorem reads_intss {t u e : TypeId} (ht : P.underlying t = some (.slice u)) (hu : P.underlying u = some (.slice e)) (he : P.underlying e = some (.int .i64)) : Reads P H w t (List (List Int)) (fun l => [dIss l]) (SlG (SlG fun n d => (Lit.int .i64 n).wf = true ∧ d = .lit (.int .i64 n))) := by
  have := reads_slice (H := H) (w := w) ht (reads_ints hu he)
  intro enc base sp held fuel cs d ps h
  obtain ⟨xs, hg, hr⟩ := this enc base sp held fuel cs d ps h
  refine ⟨xs, hg, ?_⟩
  have hr' : RelL w (fun _ => none) [.vslice (xs.flatMap (fun n => [dIs n])) xs.length] cs := hr
  rw [flatMap_one] at hr'; exact hr'
end
end Go.Dl

-- THE READING, PART 6: slices of any kind of int, structs.
namespace Go.Dl
open Go Go.RowKit Go.Proofs.Ytbgelenonjfajaa

theorem wf_int {k : IntKind} {n : Int} (h : (Lit.int k n).wf = true) : k.min ≤ n ∧ n ≤ k.max := by
  simpa [Lit.wf] using h

section
variable {P : Program} {H : Type} {w : World}

theorem reads_intsK {t e : TypeId} {k : IntKind} (ht : P.underlying t = some (.slice e)) (he : P.underlying e = some (.int k)) : Reads P H w t (List Int) (fun l => [.vslice (l.map (.int k)) l.length]) (SlG fun n d => (Lit.int k n).wf = true ∧ d = .lit (.int k n)) := by
  have := reads_slice (H := H) (w := w) ht (reads_int he)
  intro enc base sp held fuel cs d ps h
  obtain ⟨xs, hg, hr⟩ := this enc base sp held fuel cs d ps h
  refine ⟨xs, hg, ?_⟩
  have hr' : RelL w (fun _ => none) [.vslice (xs.flatMap (fun n => [DVal.int k n])) xs.length] cs := hr
  rw [flatMap_one] at hr'; exact hr'

theorem allG_wf {k : IntKind} : ∀ {xs : List Int} {ds : List (DataW H)}, AllG (fun n d => (Lit.int k n).wf = true ∧ d = .lit (.int k n)) xs ds → ∀ x ∈ xs, k.min ≤ x ∧ x ≤ k.max
  | [], _, _, x, hx => by cases hx
  | _ :: _, [], h, _, _ => h.elim
  | y :: xs, d :: ds, h, x, hx => by
    rcases List.mem_cons.1 hx with rfl | hx
    · exact wf_int h.1.1
    · exact allG_wf h.2 x hx
theorem slG_wf {k : IntKind} {xs : List Int} {d : DataW H} (h : SlG (fun n d => (Lit.int k n).wf = true ∧ d = .lit (.int k n)) xs d) : ∀ x ∈ xs, k.min ≤ x ∧ x ≤ k.max := by
  rcases h with ⟨rfl, rfl⟩ | ⟨es, sp, rfl, _, h⟩
  · intro x hx; cases hx
  · exact allG_wf h

-- structs -----------------------------------------------------------------------------------------------------------------------
/-- The fields fs, from cell off on, are read so. -/
def ReadsFs (P : Program) (H : Type) (w : World) (fs : List Field) (off total : Nat) (α : Type) (f : α → List DVal) (g : α → List (DataW H) → Prop) : Prop :=
  ∀ (enc : TypeId × Value → H) base sp held fuel (cs : List Value) xs, cs.length = total → (fs.mapM fun fl => DataW.trod enc P w base sp held fuel fl.type ((cs.drop fl.offset).take (P.cellsOf fl.type))) = some xs → ∃ x, g x (xs.map (·.1)) ∧ RelL w (fun _ => none) (f x) (cs.drop off)

theorem readsFs_nil (n : Nat) : ReadsFs P H w [] n n Unit (fun _ => []) (fun _ ds => ds = []) := by
  intro enc base sp held fuel cs xs hl h
  simp at h
  subst h
  exact ⟨(), rfl, by rw [List.drop_of_length_le (by omega)]; simp [RelL]⟩

theorem readsFs_cons {fl : Field} {fs : List Field} {off total n : Nat} {α β : Type} {f : α → List DVal} {g : α → DataW H → Prop} {f' : β → List DVal} {g' : β → List (DataW H) → Prop} (h1 : Reads P H w fl.type α f g) (ho : fl.offset = off) (hn : P.cellsOf fl.type = n)
    (h2 : ReadsFs P H w fs (off + n) total β f' g') : ReadsFs P H w (fl :: fs) off total (α × β) (fun x => f x.1 ++ f' x.2) (fun x ds => ∃ d ds', ds = d :: ds' ∧ g x.1 d ∧ g' x.2 ds') := by
  intro enc base sp held fuel cs xs hl h
  rw [List.mapM_cons] at h
  simp only [Option.bind_eq_bind, Option.bind_eq_some_iff, Option.pure_def, Option.some.injEq] at h
  obtain ⟨y, hy, ys, hys, rfl⟩ := h
  obtain ⟨x1, g1, r1⟩ := h1 enc base sp held fuel _ y.1 y.2 hy
  obtain ⟨x2, g2, r2⟩ := h2 enc base sp held fuel cs ys hl hys
  refine ⟨(x1, x2), ⟨y.1, ys.map (·.1), by simp, g1, g2⟩, ?_⟩
  rw [ho, hn] at r1
  have : cs.drop off = (cs.drop off).take n ++ cs.drop (off + n) := by
    rw [← List.drop_drop, List.take_append_drop]
  rw [this]
  exact r1.append r2

theorem reads_struct {t : TypeId} {fs : List Field} {α : Type} {f : α → List DVal} {g : α → List (DataW H) → Prop} (ht : P.underlying t = some (.struct fs.toArray)) (h : ReadsFs P H w fs 0 (P.cellsOf t) α f g) :
    Reads P H w t α f (fun x d => ∃ ds, d = .agg ds ∧ g x ds) := by
  intro enc base sp held fuel cs d ps hh
  cases fuel with
  | zero => simp [DataW.trod] at hh
  | succ fuel =>
    unfold DataW.trod at hh
    rw [ht] at hh
    dsimp only at hh
    split at hh
    · rename_i hl
      simp only [Option.map_eq_some_iff, Prod.mk.injEq] at hh
      obtain ⟨xs, hx, rfl, rfl⟩ := hh
      obtain ⟨x, g1, r1⟩ := h enc base sp held fuel cs xs hl hx
      exact ⟨x, ⟨_, rfl, g1⟩, by simpa using r1⟩
    · cases hh

/-- Read otherwise told. -/
theorem Reads.map {t : TypeId} {α β : Type} {f : α → List DVal} {g : α → DataW H → Prop} (h : Reads P H w t α f g) {f' : β → List DVal} {g' : β → DataW H → Prop} (c : ∀ x d, g x d → ∃ y, f' y = f x ∧ g' y d) : Reads P H w t β f' g' := by
  intro enc base sp held fuel cs d ps hh
  obtain ⟨x, g1, r1⟩ := h enc base sp held fuel cs d ps hh
  obtain ⟨y, e, g2⟩ := c x d g1
  exact ⟨y, g2, by rw [e]; exact r1⟩

theorem arg_agg {t : TypeId} {α : Type} {f : α → List DVal} {g : α → DataW H → Prop} (hr : Reads P H w t α f g) {enc : TypeId × Value → H} {base : Nat} {sp : Nat → Bool} {held : Bool} {v : Value} {d : DataW H} {ps : List MemPlace}
    (h : DataW.Trod enc P w base sp held t v d ps) (hv : ∃ xs, v = .agg xs) : ∃ x, g x d ∧ Rel w (fun _ => none) (.agg (f x)) v := by
  obtain ⟨fuel, h⟩ := h
  obtain ⟨xs, rfl⟩ := hv
  obtain ⟨x, hg, hx⟩ := hr _ _ _ _ _ _ _ _ h
  exact ⟨x, hg, by simp only [Rel]; exact ⟨xs, rfl, by simpa [Value.cells] using hx⟩⟩
theorem agg_of {r : Reach} {base : Nat} {t : TypeId} {v : Value} {fs : Array Field} (hu : P.underlying t = some (.struct fs)) (h : Value.okWide P w r base t v) : ∃ xs, v = .agg xs := by
  unfold Value.okWide at h
  rw [hu] at h
  cases v <;> first | exact ⟨_, rfl⟩ | (exfalso; revert h; unfold Cell.okWide; rw [hu]; simp [Cell.ok, hu]; done) | skip
end
end Go.Dl

-- THE DATA LEVEL: the lemmas that the long simp call (simp (disch := omega) only [go_sem, ↓reduceIte] in fill.py) takes besides the equations.
namespace Go.Dl
open Go
attribute [go_sem] Int.toNat_natCast Int.sub_zero Int.zero_add Int.add_zero Nat.add_sub_cancel wrap64_id List.length_cons List.length_nil List.all_cons List.all_nil Bool.and_true Bool.true_and Bool.or_false Bool.false_or
attribute [go_sem] List.take_succ_cons List.take_zero List.drop_succ_cons List.drop_zero decide_true decide_false Nat.mul_one Nat.one_mul Nat.zero_add Nat.add_zero Nat.mul_zero Nat.zero_mul Bool.not_true Bool.not_false
attribute [go_sem] Option.map_some Option.map_none Nat.le_refl Nat.zero_lt_succ ne_eq not_true_eq_false not_false_eq_true Option.isSome_some and_of dec_true dec_false true_imp_iff false_imp_iff beq_self_eq_true forall_const getElem_map List.length_map dIs dIss
end Go.Dl
