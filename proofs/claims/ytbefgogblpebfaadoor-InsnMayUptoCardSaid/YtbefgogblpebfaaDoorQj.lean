/- The data level and the contracts of the functions that are reached (part 10). -/
import Derived.ChangeSame
import Derived.Test.YtbefgogblpebfaaDoorQi
set_option linter.unusedSimpArgs false
set_option linter.unusedVariables false
-- Chapter 22: Put of the package.
namespace Go.Dl
open Go Go.Proofs
set_option maxRecDepth 10000

theorem OwnJ.lift {Hi Hb X : DHeap} {e : TypeId} {size n : Nat} {cs : List DVal} {v : DVal} (h : OwnJ Hb e size n cs v X) (hd : Disj Hi X) : OwnJ (over Hi Hb) e size n cs v (over Hi X) := by
  have hs := (sub_lift (Hi := Hi) (Hi' := Hi) (Sub.refl _) hd).2
  have key : Sub (over Hi Hb) (over Hi X) := fun i o hi => by
    cases e1 : Hb i with
    | some o2 => rw [over_x e1] at hi; rw [over_x (h.sub i o2 e1)]; exact hi
    | none =>
      rw [over_hi e1] at hi
      cases e2 : X i with
      | none => rw [over_hi e2]; exact hi
      | some o2 => rw [hd i (by rw [e2]; simp)] at hi; cases hi
  rcases h with ⟨rfl, rfl, rfl, h4⟩ | ⟨r, h1, h2, rfl, h4, h5⟩
  · exact .inl ⟨rfl, rfl, rfl, key⟩
  · exact .inr ⟨r, by rw [over_hi h1]; exact hd r (by rw [h4]; simp), h2, rfl, by rw [over_x h4], key⟩
theorem ownJ_split {Hi B H2 : DHeap} {e : TypeId} {size n : Nat} {cs : List DVal} {v : DVal} (hB : Sub Hi B) (h : OwnJ B e size (n + 1) cs v H2) {r1 r4 : Nat} {o1 o4 : DObj} (k1 : B r1 = some o1) (k4 : B r4 = some o4) (i1 : Hi r1 = none) (i4 : Hi r4 = none) (h14 : r1 ≠ r4) (o : DObj) :
    ∃ X', upd H2 r4 (some o) = over Hi X' ∧ Disj Hi X' ∧ X' r1 = some o1 ∧ X' r4 = some o ∧ OwnJ (upd (upd h0 r1 (some o1)) r4 (some o)) e size (n + 1) cs v X' := by
  have hs : Sub Hi H2 := hB.trans h.sub
  refine ⟨upd (fun i => if Hi i = none then H2 i else none) r4 (some o), ?_, ?_, ?_, ?_, ?_⟩
  · funext i
    simp only [upd, over]
    by_cases e1 : i = r4
    · simp [e1]
    · simp only [if_neg e1]
      cases e2 : Hi i with
      | none => simp; cases H2 i <;> rfl
      | some o2 => simp [hs i o2 e2]
  · intro i hi
    simp only [upd] at hi
    split at hi
    · rename_i e1; rw [e1]; exact i4
    · split at hi
      · assumption
      · simp at hi
  · simp only [upd, if_neg h14, i1, if_true]; exact h.keep k1
  · simp [upd]
  · rcases h with ⟨h, _⟩ | ⟨r, h1, h2, rfl, h4, h5⟩
    · omega
    · have n1 : r ≠ r1 := fun e => by rw [e, k1] at h1; cases h1
      have n4 : r ≠ r4 := fun e => by rw [e, k4] at h1; cases h1
      refine .inr ⟨r, by simp [upd, n1, n4, h0], h2, rfl, by simp only [upd, if_neg n4, hB.lo h1, if_true]; exact h4, fun i oi hi => ?_⟩
      simp only [upd] at hi ⊢
      split at hi
      · rename_i e1; rw [if_pos e1]; exact hi
      · rename_i e1
        rw [if_neg e1]
        split at hi
        · rename_i e2; rw [e2, if_pos i1, ← hi]; exact h5 _ _ k1
        · cases hi
theorem overN3 (H : DHeap) {a b c : Nat} (oa ob oc : DObj) : upd (upd (upd H a (some oa)) b (some ob)) c (some oc) = over H (upd (upd (upd h0 a (some oa)) b (some ob)) c (some oc)) := by
  rw [← upd_over, ← upd_over, ← upd_over, over_h0]

set_option maxHeartbeats 8000000 in
theorem put_own {G : Nat → DVal} (hG : GI G) (H : DHeap) (x : Insn) (p0 : 0 ≤ x.op) (p1 : x.op < 256) (hm : mayI x = true) : DCalls Tryd.prog G 31 [.agg (dInsn x)] H (fun e H' => ∃ v, e = .ret (.tuple [v, dI 0]) ∧ OwnJ H 5 1 (bytesI x).length (dBy (bytesI x)) v H') := by
  have hx0 : (dInsn x)[0]? = some (.int .u8 x.op) := rfl
  have hdt : (dInsn x).take 7 = dInsn x := rfl
  refine dcalls_intro Tryd.func31 Tryd.call31 rfl (by kernel_rfl) ?_
  simp (disch := omega) only [go_sem, Nat.reduceEqDiff, Nat.reduceAdd, Nat.reduceMul, Nat.reduceSub, Nat.reduceLeDiff, ↓reduceIte, reduceCtorEq, Int.reduceAdd, Int.reduceSub, Int.reduceMul, Int.reduceNeg, Int.reduceToNat, List.reduceReplicate, String.reduceEq, DVal.cells]
  intro r1 hr1; dsimp only at hr1
  simp (disch := omega) only [go_sem, Nat.reduceEqDiff, Nat.reduceAdd, Nat.reduceMul, Nat.reduceSub, Nat.reduceLeDiff, ↓reduceIte, reduceCtorEq, Int.reduceAdd, Int.reduceSub, Int.reduceMul, Int.reduceNeg, Int.reduceToNat, List.reduceReplicate, String.reduceEq, hdt, dInsn_len]
  refine (mayI_spec hG _ x p0 p1).mono ?_
  rintro _ H1 ⟨rfl, rfl⟩
  rw [hm]
  have hop := mayI_at hm
  obtain ⟨hfl, hnd, hfok⟩ := fieldsI_ok x.op
  have hall := bytesIk_all x
  obtain ⟨fs, hfs⟩ : ∃ fs, fs = fieldsI x.op := ⟨_, rfl⟩
  have hsucc : ∀ k p, fs[k]? = some p → bytesIk x (k + 1) = bytesIk x k ++ eightL (getI x p.1) := fun k p h => bytesIk_succ (by rw [← hfs]; exact h)
  have hw := mayI_w hm
  rw [← hfs] at hfl hnd hfok hall hw
  simp (disch := omega) only [go_sem, Nat.reduceEqDiff, Nat.reduceAdd, Nat.reduceMul, Nat.reduceSub, Nat.reduceLeDiff, ↓reduceIte, reduceCtorEq, Int.reduceAdd, Int.reduceSub, Int.reduceMul, Int.reduceNeg, Int.reduceToNat, List.reduceReplicate, String.reduceEq, hx0]
  intro rb hrb; dsimp only at hrb
  obtain ⟨m2, m1, hrb'⟩ := upd_eq_none.1 hrb
  simp (disch := omega) only [go_sem, Nat.reduceEqDiff, Nat.reduceAdd, Nat.reduceMul, Nat.reduceSub, Nat.reduceLeDiff, ↓reduceIte, reduceCtorEq, Int.reduceAdd, Int.reduceSub, Int.reduceMul, Int.reduceNeg, Int.reduceToNat, List.reduceReplicate, String.reduceEq, m1, m2, hx0]
  intro r4 hr4; dsimp only at hr4
  obtain ⟨m4, m3, hr4a⟩ := upd_eq_none.1 hr4
  obtain ⟨m6, m5, hr4'⟩ := upd_eq_none.1 hr4a
  simp (disch := omega) only [go_sem, Nat.reduceEqDiff, Nat.reduceAdd, Nat.reduceMul, Nat.reduceSub, Nat.reduceLeDiff, ↓reduceIte, reduceCtorEq, Int.reduceAdd, Int.reduceSub, Int.reduceMul, Int.reduceNeg, Int.reduceToNat, List.reduceReplicate, String.reduceEq, m1, m2, m3, m4, m5, m6, hx0]
  refine (fieldsf_spec (G := G) r1).mono ?_
  rintro _ H1 ⟨rfl, rfl⟩
  simp (disch := omega) only [go_sem, Nat.reduceEqDiff, Nat.reduceAdd, Nat.reduceMul, Nat.reduceSub, Nat.reduceLeDiff, ↓reduceIte, reduceCtorEq, Int.reduceAdd, Int.reduceSub, Int.reduceMul, Int.reduceNeg, Int.reduceToNat, List.reduceReplicate, String.reduceEq]
  have hw0 : (dBy (bytesIk x 0)) = [.int .u8 x.op] := by
    have : (UInt8.ofNat x.op.toNat).toNat = x.op.toNat := by rw [UInt8.toNat_ofNat']; omega
    simp only [bytesIk, dBy, List.take_zero, List.map_nil, List.flatMap_nil, List.map_cons, this, Int.toNat_of_nonneg p0]
  refine dwp_rangeX 87 [.vptr [.optr r1 0] 0] (fs.map fun p => [dFieldV r1 p]) _ (upd (upd (upd h0 r1 (some (.cells (dInsn x) 53))) rb (some (.cells [.int .u8 x.op] 5))) r4 (some (.cells [.oslice 1 rb 0 1 1] 36)))
    (by rw [hfs]; exact fields_iter hG p0 p1 (by simp [upd, m1, m5])) rfl (by kernel_rfl) (by intro z hz; obtain ⟨p, _, rfl⟩ := List.mem_map.1 hz; rfl) (overN3 _ _ _ _) ((((Disj.h0 _).hi hr1 _).hi hrb' _).hi hr4' _)
    (fun k X => ∃ v, X r1 = some (.cells (dInsn x) 53) ∧ X r4 = some (.cells [v] 36) ∧ OwnJ (upd (upd h0 r1 (some (.cells (dInsn x) 53))) r4 (some (.cells [v] 36))) 5 1 (1 + 8 * k) (dBy (bytesIk x k)) v X)
    (fun j X => False) ⟨.oslice 1 rb 0 1 1, by simp [upd, m1, m5], by simp [upd], ?_⟩ ?_ ?_ ?_
  · refine .inr ⟨rb, by simp [upd, m2, m3, h0], by rw [hw0]; rfl, rfl, by simp [upd, m3, hw0], fun i oi hi => ?_⟩
    simp only [upd, h0] at hi ⊢
    split at hi
    · rename_i e1; rw [if_pos e1]; exact hi
    · rename_i e1
      split at hi
      · rename_i e2; subst e2; simp [e1, m1, ← hi]
      · cases hi
  · rintro k z Hi X hd hzz ⟨v, hX1, hX4, hvX⟩
    rw [List.getElem?_map, Option.map_eq_some_iff] at hzz
    obtain ⟨p, hfk, rfl⟩ := hzz
    have hpm := List.mem_of_getElem? hfk
    have hpF := (hfok p hpm).1
    obtain ⟨hkl, _⟩ := List.getElem?_eq_some_iff.1 hfk
    have hv := hvX.lift hd
    obtain ⟨c1, c2⟩ := hv.cell1
    have h1x : over Hi X r1 = some (.cells (dInsn x) 53) := over_x hX1
    have h4x : over Hi X r4 = some (.cells [v] 36) := over_x hX4
    simp (disch := omega) only [go_sem, Nat.reduceEqDiff, Nat.reduceAdd, Nat.reduceMul, Nat.reduceSub, Nat.reduceLeDiff, ↓reduceIte, reduceCtorEq, Int.reduceAdd, Int.reduceSub, Int.reduceMul, Int.reduceNeg, Int.reduceToNat, List.reduceReplicate, String.reduceEq, dFieldV, DVal.cells]
    intro r6 hr6; dsimp only at hr6
    obtain ⟨hH6, hX6⟩ := over_eq_none.1 hr6
    have n1 : ¬ r1 = r6 := fun e => by subst e; rw [hX1] at hX6; cases hX6
    have n4 : ¬ r4 = r6 := fun e => by subst e; rw [hX4] at hX6; cases hX6
    have n4' : ¬ r6 = r4 := fun e => n4 e.symm
    have hvf := hv.frame hr6 (.cells (dFieldV r1 p).cells 118)
    simp (disch := omega) only [go_sem, Nat.reduceEqDiff, Nat.reduceAdd, Nat.reduceMul, Nat.reduceSub, Nat.reduceLeDiff, ↓reduceIte, reduceCtorEq, Int.reduceAdd, Int.reduceSub, Int.reduceMul, Int.reduceNeg, Int.reduceToNat, List.reduceReplicate, String.reduceEq, n1, n4, h1x, h4x, c1, c2]
    refine dwp_draws (by kernel_rfl) (.take 0 (.take 1 (.take 2 (.go 3 [0] (.go 4 [2, 0] (.go 5 [2] (.go 6 [] .done))))))) (by kernel_rfl) ?_
    simp (disch := omega) only [go_sem, Nat.reduceEqDiff, Nat.reduceAdd, Nat.reduceMul, Nat.reduceSub, Nat.reduceLeDiff, ↓reduceIte, reduceCtorEq, Int.reduceAdd, Int.reduceSub, Int.reduceMul, Int.reduceNeg, Int.reduceToNat, List.reduceReplicate, String.reduceEq, n1, n4, n4', h1x, h4x, c1, c2]
    refine (getF_spec (G := G) (x := x) (e := 53) hpF (by rw [over_upd, if_neg n1, over_x hX1])).mono ?_
    rintro _ H2 ⟨rfl, rfl⟩
    simp (disch := omega) only [go_sem, Nat.reduceEqDiff, Nat.reduceAdd, Nat.reduceMul, Nat.reduceSub, Nat.reduceLeDiff, ↓reduceIte, reduceCtorEq, Int.reduceAdd, Int.reduceSub, Int.reduceMul, Int.reduceNeg, Int.reduceToNat, List.reduceReplicate, String.reduceEq, n1, n4, n4', h1x, h4x, c1, c2]
    refine (eight_spec (G := G) (getI x p.1) (hw p hpm)).mono ?_
    rintro _ H2 ⟨rfl, rfl⟩
    simp (disch := omega) only [go_sem, Nat.reduceEqDiff, Nat.reduceAdd, Nat.reduceMul, Nat.reduceSub, Nat.reduceLeDiff, ↓reduceIte, reduceCtorEq, Int.reduceAdd, Int.reduceSub, Int.reduceMul, Int.reduceNeg, Int.reduceToNat, List.reduceReplicate, String.reduceEq, n1, n4, n4', h1x, h4x, c1, c2, take8, len8, one_by]
    rw [upd_over Hi X] at hvf
    refine OwnJ.append (m := 8) (bytes := 1) (news := dBy (eightL (getI x p.1))) hvf (by simp [dBy_length, eightL_length]) (by omega) fun v2 H3 hv2 => ?_
    have b1 : upd (over Hi (upd (upd h0 r1 (some (DObj.cells (dInsn x) 53))) r4 (some (DObj.cells [v] 36)))) r6 (some (.cells (dFieldV r1 p).cells 118)) r1 = some (.cells (dInsn x) 53) := by
      rw [upd, if_neg n1]; exact over_x (by simp [upd, m5])
    have b4 : upd (over Hi (upd (upd h0 r1 (some (DObj.cells (dInsn x) 53))) r4 (some (DObj.cells [v] 36)))) r6 (some (.cells (dFieldV r1 p).cells 118)) r4 = some (.cells [v] 36) := by
      rw [upd, if_neg n4]; exact over_x (by simp [upd])
    have hB : Sub Hi (upd (over Hi (upd (upd h0 r1 (some (DObj.cells (dInsn x) 53))) r4 (some (DObj.cells [v] 36)))) r6 (some (.cells (dFieldV r1 p).cells 118))) := (sub_over (Sub.refl Hi) (fun i hi => hd i fun e => by
      cases e2 : (upd (upd h0 r1 (some (.cells (dInsn x) 53))) r4 (some (.cells [v] 36))) i with
      | none => exact hi e2
      | some o => rw [hvX.keep e2] at e; cases e)).up hH6 _
    have k1 := hv2.keep b1
    have k4 := hv2.keep b4
    have k6 := hv2.keep (upd_same _ r6 _)
    simp only [dFieldV, DVal.cells] at k6
    obtain ⟨c3, c4⟩ := hv2.cell1
    have hv3 := hv2
    rw [show 1 + 8 * k + 8 = 8 * k + 8 + 1 by omega, ← dBy_append, ← hsucc k p hfk] at hv3
    obtain ⟨X', g1, g2, g3, g4, g5⟩ := ownJ_split hB hv3 b1 b4 (hd r1 (by rw [hX1]; simp)) (hd r4 (by rw [hX4]; simp)) m5 (.cells [v2] 36)
    simp (disch := omega) only [go_sem, Nat.reduceEqDiff, Nat.reduceAdd, Nat.reduceMul, Nat.reduceSub, Nat.reduceLeDiff, ↓reduceIte, reduceCtorEq, Int.reduceAdd, Int.reduceSub, Int.reduceMul, Int.reduceNeg, Int.reduceToNat, List.reduceReplicate, String.reduceEq, n1, n4, n4', h1x, h4x, c1, c2, c3, c4, k1, k4, k6, List.length_cons, List.length_nil, List.drop_succ_cons, List.drop_zero, List.append_nil]
    refine ⟨X', g1, g2, v2, g3, g4, ?_⟩
    rw [show 1 + 8 * (k + 1) = 8 * k + 8 + 1 by omega]; exact g5
  · rintro X hd ⟨v, hX1, hX4, hvX⟩
    rw [List.length_map] at hvX
    have hv := (hvX.lift hd).less (sub_over (Sub.refl H) (fun i hi => hd i fun e => by
      cases e2 : (upd (upd h0 r1 (some (.cells (dInsn x) 53))) r4 (some (.cells [v] 36))) i with
      | none => exact hi e2
      | some o => rw [hvX.keep e2] at e; cases e))
    have h4x : over H X r4 = some (.cells [v] 36) := over_x hX4
    obtain ⟨c1, c2⟩ := hv.cell1
    simp (disch := omega) only [go_sem, Nat.reduceEqDiff, Nat.reduceAdd, Nat.reduceMul, Nat.reduceSub, Nat.reduceLeDiff, ↓reduceIte, reduceCtorEq, Int.reduceAdd, Int.reduceSub, Int.reduceMul, Int.reduceNeg, Int.reduceToNat, List.reduceReplicate, String.reduceEq, h4x, c1, c2]
    have hlen : (bytesI x).length = 1 + 8 * fs.length := by rw [bytesI_length, hfs]
    rw [hall, ← hlen] at hv
    exact DFin.refl ⟨v, rfl, hv⟩
  · rintro j X hd h
    exact h.elim
set_option maxHeartbeats 8000000 in
theorem put_spec {G : Nat → DVal} (hG : GI G) (H : DHeap) (x : Insn) (p0 : 0 ≤ x.op) (p1 : x.op < 256) : DCalls Tryd.prog G 31 [.agg (dInsn x)] H (DRet (.tuple [.vslice (dBy (putID x).1) (putID x).1.length, dI (putID x).2]) H) := by
  have hx0 : (dInsn x)[0]? = some (.int .u8 x.op) := rfl
  have hdt : (dInsn x).take 7 = dInsn x := rfl
  cases hm : mayI x with
  | false =>
    refine dcalls_intro Tryd.func31 Tryd.call31 rfl (by kernel_rfl) ?_
    simp (disch := omega) only [go_sem, Nat.reduceEqDiff, Nat.reduceAdd, Nat.reduceMul, Nat.reduceSub, Nat.reduceLeDiff, ↓reduceIte, reduceCtorEq, Int.reduceAdd, Int.reduceSub, Int.reduceMul, Int.reduceNeg, Int.reduceToNat, List.reduceReplicate, String.reduceEq, DVal.cells]
    intro r1 hr1; dsimp only at hr1
    simp (disch := omega) only [go_sem, Nat.reduceEqDiff, Nat.reduceAdd, Nat.reduceMul, Nat.reduceSub, Nat.reduceLeDiff, ↓reduceIte, reduceCtorEq, Int.reduceAdd, Int.reduceSub, Int.reduceMul, Int.reduceNeg, Int.reduceToNat, List.reduceReplicate, String.reduceEq, hdt, dInsn_len]
    refine (mayI_spec hG _ x p0 p1).mono ?_
    rintro _ H1 ⟨rfl, rfl⟩
    rw [hm]
    simp (disch := omega) only [go_sem, Nat.reduceEqDiff, Nat.reduceAdd, Nat.reduceMul, Nat.reduceSub, Nat.reduceLeDiff, ↓reduceIte, reduceCtorEq, Int.reduceAdd, Int.reduceSub, Int.reduceMul, Int.reduceNeg, Int.reduceToNat, List.reduceReplicate, String.reduceEq]
    refine DFin.dropA r1 hr1 (DFin.ghost (GhostE.tuple1' (pre := []) (post := [dI 2]) (OwnJ.ghost (OwnJ.nil 5 1 (Sub.refl H))) rfl rfl) (DFin.refl ⟨by rw [putID, hm]; rfl, rfl⟩))
  | true =>
    have h := put_own hG H x p0 p1 hm
    exact DCalls.ghost h fun e H' ⟨v, h1, h2⟩ => ⟨.tuple [v, dI 0], _, H, h1, GhostE.tuple1' (pre := []) (post := [dI 0]) h2.ghost rfl rfl, by rw [putID, hm]; rfl, rfl⟩
end Go.Dl

-- Chapter 22: the reference's number.
namespace Go.Dl
open Go Go.Proofs
set_option maxRecDepth 10000

def numStep (v : Int) (c : UInt8) : Int := if 48 ≤ (c.toNat : Int) ∧ (c.toNat : Int) ≤ 57 then IntKind.u64.wrap (IntKind.u64.wrap (10 * v) + IntKind.u64.wrap (IntKind.u8.wrap ((c.toNat : Int) - 48))) else v
def numU (s : List UInt8) : Int := (s.take 21).foldl numStep 0
def numC (s : List UInt8) : Int := IntKind.i64.wrap (if s[0]? = some 45 then IntKind.u64.wrap (0 - numU s) else numU s)

set_option maxHeartbeats 8000000 in
theorem number_spec (G : Nat → DVal) (H : DHeap) (s : List UInt8) (hs : s.length ≤ 35184372088832) : DCalls Tryd.prog G 73 [.str s] H (DRet (dI (numC s)) H) := by
  refine dcalls_intro Tryd.func73 Tryd.call73 rfl (by kernel_rfl) ?_
  simp (disch := omega) only [go_sem, Nat.reduceEqDiff, Nat.reduceAdd, Nat.reduceMul, Nat.reduceSub, Nat.reduceLeDiff, ↓reduceIte, reduceCtorEq, Int.reduceAdd, Int.reduceSub, Int.reduceMul, Int.reduceNeg, Int.reduceToNat, List.reduceReplicate, String.reduceEq]
  obtain ⟨I, hI⟩ : ∃ I : Nat → (Nat → DVal) → DHeap → Prop, ∀ k env heap, I k env heap ↔ (env 0 = .str s ∧ env 3 = .int .u64 ((s.take k).foldl numStep 0) ∧ env 4 = dI k ∧ k ≤ s.length ∧ k ≤ 21 ∧ heap = H) := ⟨_, fun _ _ _ => Iff.rfl⟩
  refine DLoop.run I (fun k => s.length - k) 0 ((hI _ _ _).2 ?_) ?_
  · simp (disch := omega) only [go_sem, Nat.reduceEqDiff, Nat.reduceAdd, Nat.reduceMul, Nat.reduceSub, Nat.reduceLeDiff, ↓reduceIte, reduceCtorEq, Int.reduceAdd, Int.reduceSub, Int.reduceMul, Int.reduceNeg, Int.reduceToNat, List.reduceReplicate, String.reduceEq]
    (repeat' apply And.intro) <;> (try first | rfl | assumption | omega)
  · intro k env heap hi
    obtain ⟨e0, e3, e4, hk, hk2, rfl⟩ := (hI _ _ _).1 hi
    obtain ⟨v, hv⟩ : ∃ v, v = (s.take k).foldl numStep 0 := ⟨_, rfl⟩
    rw [← hv] at e3
    by_cases hlt : k < s.length
    · by_cases h21 : k < 21
      · have hg := List.getElem?_eq_getElem hlt
        obtain ⟨c, hc⟩ : ∃ c, s[k] = c := ⟨_, rfl⟩
        rw [hc] at hg
        have hst : (s.take (k + 1)).foldl numStep 0 = numStep v c := by
          rw [List.take_add_one, hg, Option.toList_some, List.foldl_append, hv]; rfl
        by_cases c1 : 48 ≤ (c.toNat : Int)
        · by_cases c2 : (c.toNat : Int) ≤ 57
          · have hstep : numStep v c = IntKind.u64.wrap (IntKind.u64.wrap (10 * v) + IntKind.u64.wrap (IntKind.u8.wrap ((c.toNat : Int) - 48))) := if_pos ⟨c1, c2⟩
            rw [hstep] at hst
            simp (disch := omega) only [go_sem, Nat.reduceEqDiff, Nat.reduceAdd, Nat.reduceMul, Nat.reduceSub, Nat.reduceLeDiff, ↓reduceIte, reduceCtorEq, Int.reduceAdd, Int.reduceSub, Int.reduceMul, Int.reduceNeg, Int.reduceToNat, List.reduceReplicate, String.reduceEq, e0, e3, e4, hlt, h21, hg, c1, c2]
            refine ⟨k + 1, _, GhostS.refl _, (hI _ _ _).2 ?_, by omega⟩
            simp (disch := omega) only [go_sem, Nat.reduceEqDiff, Nat.reduceAdd, Nat.reduceMul, Nat.reduceSub, Nat.reduceLeDiff, ↓reduceIte, reduceCtorEq, Int.reduceAdd, Int.reduceSub, Int.reduceMul, Int.reduceNeg, Int.reduceToNat, List.reduceReplicate, String.reduceEq, e0, e3, e4]
            (repeat' apply And.intro) <;> (try first | rfl | assumption | omega)
            rw [hst]
          · have hstep : numStep v c = v := if_neg (by omega)
            rw [hstep] at hst
            simp (disch := omega) only [go_sem, Nat.reduceEqDiff, Nat.reduceAdd, Nat.reduceMul, Nat.reduceSub, Nat.reduceLeDiff, ↓reduceIte, reduceCtorEq, Int.reduceAdd, Int.reduceSub, Int.reduceMul, Int.reduceNeg, Int.reduceToNat, List.reduceReplicate, String.reduceEq, e0, e3, e4, hlt, h21, hg, c1, c2]
            refine ⟨k + 1, _, GhostS.refl _, (hI _ _ _).2 ?_, by omega⟩
            simp (disch := omega) only [go_sem, Nat.reduceEqDiff, Nat.reduceAdd, Nat.reduceMul, Nat.reduceSub, Nat.reduceLeDiff, ↓reduceIte, reduceCtorEq, Int.reduceAdd, Int.reduceSub, Int.reduceMul, Int.reduceNeg, Int.reduceToNat, List.reduceReplicate, String.reduceEq, e0, e3, e4]
            (repeat' apply And.intro) <;> (try first | rfl | assumption | omega)
            rw [hst]
        · have hstep : numStep v c = v := if_neg (by omega)
          rw [hstep] at hst
          simp (disch := omega) only [go_sem, Nat.reduceEqDiff, Nat.reduceAdd, Nat.reduceMul, Nat.reduceSub, Nat.reduceLeDiff, ↓reduceIte, reduceCtorEq, Int.reduceAdd, Int.reduceSub, Int.reduceMul, Int.reduceNeg, Int.reduceToNat, List.reduceReplicate, String.reduceEq, e0, e3, e4, hlt, h21, hg, c1]
          refine ⟨k + 1, _, GhostS.refl _, (hI _ _ _).2 ?_, by omega⟩
          simp (disch := omega) only [go_sem, Nat.reduceEqDiff, Nat.reduceAdd, Nat.reduceMul, Nat.reduceSub, Nat.reduceLeDiff, ↓reduceIte, reduceCtorEq, Int.reduceAdd, Int.reduceSub, Int.reduceMul, Int.reduceNeg, Int.reduceToNat, List.reduceReplicate, String.reduceEq, e0, e3, e4]
          (repeat' apply And.intro) <;> (try first | rfl | assumption | omega)
          rw [hst]
      · have hvU : v = numU s := by rw [hv, numU, show k = 21 by omega]
        rw [hvU] at e3
        clear hv hvU
        by_cases s0 : s = []
        · have hnc : numC s = IntKind.i64.wrap (numU s) := by rw [numC, if_neg (by rw [s0]; simp)]
          generalize numU s = u at e3 hnc
          simp (disch := omega) only [go_sem, Nat.reduceEqDiff, Nat.reduceAdd, Nat.reduceMul, Nat.reduceSub, Nat.reduceLeDiff, ↓reduceIte, reduceCtorEq, Int.reduceAdd, Int.reduceSub, Int.reduceMul, Int.reduceNeg, Int.reduceToNat, List.reduceReplicate, String.reduceEq, e0, e3, e4, hlt, h21, s0]
          exact DFin.refl ⟨by rw [← s0, hnc], rfl⟩
        · obtain ⟨c0, hg0⟩ : ∃ c0, s[0]? = some c0 := ⟨_, List.getElem?_eq_getElem (List.length_pos_iff.2 s0)⟩
          have hp0 := List.length_pos_iff.2 s0
          by_cases c4 : (c0.toNat : Int) = 45
          · have h45 : c0 = 45 := UInt8.toNat_inj.1 (by show c0.toNat = 45; omega)
            have hnc : numC s = IntKind.i64.wrap (IntKind.u64.wrap (0 - numU s)) := by rw [numC, if_pos (by rw [hg0, h45])]
            generalize numU s = u at e3 hnc
            simp (disch := omega) only [go_sem, Nat.reduceEqDiff, Nat.reduceAdd, Nat.reduceMul, Nat.reduceSub, Nat.reduceLeDiff, ↓reduceIte, reduceCtorEq, Int.reduceAdd, Int.reduceSub, Int.reduceMul, Int.reduceNeg, Int.reduceToNat, List.reduceReplicate, String.reduceEq, e0, e3, e4, hlt, h21, hg0, s0, c4]
            exact DFin.refl ⟨by rw [hnc], rfl⟩
          · have h45 : ¬ c0 = 45 := fun e => c4 (by rw [e]; rfl)
            have hnc : numC s = IntKind.i64.wrap (numU s) := by rw [numC, if_neg (by rw [hg0]; simpa using h45)]
            generalize numU s = u at e3 hnc
            simp (disch := omega) only [go_sem, Nat.reduceEqDiff, Nat.reduceAdd, Nat.reduceMul, Nat.reduceSub, Nat.reduceLeDiff, ↓reduceIte, reduceCtorEq, Int.reduceAdd, Int.reduceSub, Int.reduceMul, Int.reduceNeg, Int.reduceToNat, List.reduceReplicate, String.reduceEq, e0, e3, e4, hlt, h21, hg0, s0, c4]
            exact DFin.refl ⟨by rw [hnc], rfl⟩
    · have hvU : v = numU s := by rw [hv, numU, List.take_of_length_le (by omega), List.take_of_length_le (by omega)]
      rw [hvU] at e3
      clear hv hvU
      by_cases s0 : s = []
      · have hnc : numC s = IntKind.i64.wrap (numU s) := by rw [numC, if_neg (by rw [s0]; simp)]
        generalize numU s = u at e3 hnc
        simp (disch := omega) only [go_sem, Nat.reduceEqDiff, Nat.reduceAdd, Nat.reduceMul, Nat.reduceSub, Nat.reduceLeDiff, ↓reduceIte, reduceCtorEq, Int.reduceAdd, Int.reduceSub, Int.reduceMul, Int.reduceNeg, Int.reduceToNat, List.reduceReplicate, String.reduceEq, e0, e3, e4, hlt, hlt, s0]
        exact DFin.refl ⟨by rw [← s0, hnc], rfl⟩
      · obtain ⟨c0, hg0⟩ : ∃ c0, s[0]? = some c0 := ⟨_, List.getElem?_eq_getElem (List.length_pos_iff.2 s0)⟩
        have hp0 := List.length_pos_iff.2 s0
        by_cases c4 : (c0.toNat : Int) = 45
        · have h45 : c0 = 45 := UInt8.toNat_inj.1 (by show c0.toNat = 45; omega)
          have hnc : numC s = IntKind.i64.wrap (IntKind.u64.wrap (0 - numU s)) := by rw [numC, if_pos (by rw [hg0, h45])]
          generalize numU s = u at e3 hnc
          simp (disch := omega) only [go_sem, Nat.reduceEqDiff, Nat.reduceAdd, Nat.reduceMul, Nat.reduceSub, Nat.reduceLeDiff, ↓reduceIte, reduceCtorEq, Int.reduceAdd, Int.reduceSub, Int.reduceMul, Int.reduceNeg, Int.reduceToNat, List.reduceReplicate, String.reduceEq, e0, e3, e4, hlt, hlt, hg0, s0, c4]
          exact DFin.refl ⟨by rw [hnc], rfl⟩
        · have h45 : ¬ c0 = 45 := fun e => c4 (by rw [e]; rfl)
          have hnc : numC s = IntKind.i64.wrap (numU s) := by rw [numC, if_neg (by rw [hg0]; simpa using h45)]
          generalize numU s = u at e3 hnc
          simp (disch := omega) only [go_sem, Nat.reduceEqDiff, Nat.reduceAdd, Nat.reduceMul, Nat.reduceSub, Nat.reduceLeDiff, ↓reduceIte, reduceCtorEq, Int.reduceAdd, Int.reduceSub, Int.reduceMul, Int.reduceNeg, Int.reduceToNat, List.reduceReplicate, String.reduceEq, e0, e3, e4, hlt, hlt, hg0, s0, c4]
          exact DFin.refl ⟨by rw [hnc], rfl⟩
end Go.Dl

-- Chapter 22: plain laws of the reference's Read.
namespace Go.Dl
open Go Go.Proofs
set_option maxRecDepth 10000

theorem numStep_digit {v : Int} {d : Nat} (hd : d < 10) (h0 : 0 ≤ v) (h1 : 10 * v + d < 18446744073709551616) : numStep v (UInt8.ofNat (48 + d)) = 10 * v + d := by
  have e : (UInt8.ofNat (48 + d)).toNat = 48 + d := by rw [UInt8.toNat_ofNat']; omega
  rw [numStep, e, if_pos (by omega)]
  have e1 : IntKind.u8.wrap (((48 + d : Nat) : Int) - 48) = d := by rw [IntKind.wrap_u8]; omega
  have e2 : IntKind.u64.wrap (d : Int) = d := by rw [IntKind.wrap_u64]; omega
  have e3 : IntKind.u64.wrap (10 * v) = 10 * v := by rw [IntKind.wrap_u64]; omega
  rw [e1, e2, e3, IntKind.wrap_u64]
  omega
theorem fold_digits (u : Nat) (hu : u < 18446744073709551616) : (Lib.decDigits u).foldl numStep 0 = u := by
  induction u using Nat.strongRecOn with
  | ind u ih =>
    rw [Lib.decDigits]
    split
    · rename_i h
      rw [List.foldl_cons, List.foldl_nil, numStep_digit h (by omega) (by omega)]
      omega
    · rename_i h
      rw [List.foldl_append, ih (u / 10) (by omega) (by omega), List.foldl_cons, List.foldl_nil, numStep_digit (by omega) (by omega) (by omega)]
      omega
theorem numC_itoa {v : Int} (h : I64 v) : numC (Lib.itoa v) = v := by
  have hl := itoa_len h
  obtain ⟨h1, h2⟩ := h
  have hU : numU (Lib.itoa v) = (v.natAbs : Int) := by
    rw [numU, List.take_of_length_le hl]
    unfold Lib.itoa
    split
    · rename_i hn
      rw [List.foldl_cons, show numStep 0 45 = 0 from by decide]
      rw [fold_digits _ (by omega)]
    · rw [fold_digits _ (by omega)]
      omega
  by_cases c : v < 0
  · have h45 : (Lib.itoa v)[0]? = some 45 := by unfold Lib.itoa; rw [if_pos c]; rfl
    rw [numC, if_pos h45, hU, IntKind.wrap_u64, IntKind.wrap_i64]
    omega
  · have h45 : (Lib.itoa v)[0]? ≠ some 45 := by
      unfold Lib.itoa; rw [if_neg c]
      intro h
      have := decDigits_digits _ 45 (List.mem_of_getElem? h)
      simp at this
    rw [numC, if_neg h45, hU, IntKind.wrap_i64]
    omega
/-- What the reference's Read loads. -/
def loadN : List (Int × Int × Int) → List (List UInt8) → Insn → Insn
  | f :: fs, w :: l, x => loadN fs l (setI x f.1 (numC w))
  | _, _, x => x
theorem loadN_I : ∀ (fs : List (Int × Int × Int)) (vs : List Int) (x : Insn), (∀ v ∈ vs, I64 v) → vs.length = fs.length → loadI fs (vs.map Lib.itoa) x = some (loadN fs (vs.map Lib.itoa) x)
  | [], [], x, _, _ => rfl
  | f :: fs, v :: vs, x, h, hl => by
    simp only [List.map_cons, loadI, pI_itoa (h v (by simp)), loadN, numC_itoa (h v (by simp))]
    exact loadN_I fs vs _ (fun g hg => h g (by simp [hg])) (by simpa using hl)
theorem loadN_snoc {fs : List (Int × Int × Int)} {l : List (List UInt8)} {x : Insn} {k : Nat} {p : Int × Int × Int} {w : List UInt8} (hp : fs[k]? = some p) (hw : l[k]? = some w) : loadN (fs.take (k + 1)) (l.take (k + 1)) x = setI (loadN (fs.take k) (l.take k) x) p.1 (numC w) := by
  induction k generalizing fs l x with
  | zero =>
    cases fs <;> cases l <;> simp_all [loadN]
  | succ k ih =>
    cases fs with
    | nil => simp at hp
    | cons f fs =>
      cases l with
      | nil => simp at hw
      | cons w0 l =>
        simp only [List.take_succ_cons, loadN]
        exact ih (by simpa using hp) (by simpa using hw)
/-- The reference's Read answers none where the loaded instruction's text is another. -/
theorem rread_some {s : List UInt8} {x : Insn} (h : readI s = some x) : s.length ≤ 200 ∧ ∃ l, fieldsL s = nameC x.op.toNat :: l ∧ l.length = (fieldsI x.op).length ∧ loadN (fieldsI x.op) l (op0 x.op) = x := by
  obtain ⟨hm, rfl⟩ := readI_iff.1 h
  refine ⟨?_, (valsI x).map Lib.itoa, words_text hm, by rw [valsI]; simp, ?_⟩
  · have := textIk_len hm (fieldsI x.op).length; rwa [textIk_all] at this
  · have h1 := load_vals x (fieldsI x.op) (op0 x.op) (mayI_w hm)
    have h2 := loadN_I (fieldsI x.op) (valsI x) (op0 x.op) (fun v hv => by
      obtain ⟨f, hf, rfl⟩ := List.mem_map.1 hv
      exact mayI_w hm f hf) (by rw [valsI, List.length_map])
    rw [valsI] at h2 ⊢
    rw [h1, mayI_put hm] at h2
    exact (Option.some.inj h2).symm
end Go.Dl

-- Chapter 22: Read of the reference.
namespace Go.Dl
open Go Go.Proofs
set_option maxRecDepth 10000

/-- What Read returns. -/
def readID (s : List UInt8) : Insn × Int := match readI s with | some x => (x, 0) | none => (op0 0, 5)
theorem splitL_mem : ∀ (s cur w : List UInt8), w ∈ splitL s cur → w.length ≤ cur.length + s.length
  | [], cur, w, h => by simp [splitL] at h; subst h; simp
  | b :: s, cur, w, h => by
    rw [splitL] at h
    split at h
    · rcases List.mem_cons.1 h with rfl | h
      · simp
      · have := splitL_mem s [] w h; simp at this ⊢; omega
    · have := splitL_mem s _ w h; simp at this ⊢; omega
theorem loadN_op : ∀ (fs : List (Int × Int × Int)) (l : List (List UInt8)) (x : Insn), (loadN fs l x).op = x.op
  | [], _, x => by simp [loadN]
  | _ :: _, [], x => by simp [loadN]
  | f :: fs, w :: l, x => by rw [loadN, loadN_op fs l, set_op]
theorem readID_none {s : List UInt8} (h : ∀ x, readI s ≠ some x) : readID s = (op0 0, 5) := by
  rw [readID]
  cases e : readI s with
  | none => rfl
  | some x => exact absurd e (h x)

set_option maxHeartbeats 8000000 in
theorem rreadI_spec (G : Nat → DVal) (H : DHeap) (s : List UInt8) (hs : s.length ≤ 1000000000) : DCalls Tryd.prog G 43 [.str s] H (DRet (.tuple [.agg (dInsn (readID s).1), dI (readID s).2]) H) := by
  have hz : [DVal.int IntKind.u8 0, DVal.int IntKind.i64 0, DVal.int IntKind.i64 0, DVal.int IntKind.i64 0, DVal.int IntKind.i64 0, DVal.int IntKind.i64 0, DVal.int IntKind.i64 0] = dInsn (op0 0) := rfl
  have hone : ∀ y, (dInsn y).all (fun d => d.one) = true := fun _ => rfl
  have hdr : ∀ y, (dInsn y).drop 7 = [] := fun _ => rfl
  have hdt : ∀ y, (dInsn y).take 7 = dInsn y := fun _ => rfl
  refine dcalls_intro Tryd.func43 Tryd.call43 rfl (by kernel_rfl) ?_
  simp (disch := omega) only [go_sem, Nat.reduceEqDiff, Nat.reduceAdd, Nat.reduceMul, Nat.reduceSub, Nat.reduceLeDiff, ↓reduceIte, reduceCtorEq, Int.reduceAdd, Int.reduceSub, Int.reduceMul, Int.reduceNeg, Int.reduceToNat, List.reduceReplicate, String.reduceEq]
  rw [hz]
  intro r2 hr2; dsimp only at hr2
  by_cases h200 : s.length ≤ 200
  · obtain ⟨w, l, hwl⟩ := List.exists_cons_of_ne_nil (splitL_ne s [])
    rw [show splitL s [] = fieldsL s from rfl] at hwl
    have hp0 := (namedC_bounds w).1
    have hp1 := (namedC_bounds w).2
    have hno : (¬ 1 ≤ namedC w ∨ l.length ≠ (fieldsI (namedC w)).length) → readID s = (op0 0, 5) := fun hc => readID_none fun x hx => by
      obtain ⟨_, l', hl', h1, h2⟩ := rread_some hx
      rw [hwl] at hl'
      injection hl' with ha hb
      subst hb
      have hm := mayI_at (readI_iff.1 hx).1
      have hn : namedC w = x.op := by rw [ha, namedC_name (by omega) (by omega)]; omega
      rw [hn] at hc
      rcases hc with hc | hc
      · omega
      · exact hc h1
    simp (disch := omega) only [go_sem, Nat.reduceEqDiff, Nat.reduceAdd, Nat.reduceMul, Nat.reduceSub, Nat.reduceLeDiff, ↓reduceIte, reduceCtorEq, Int.reduceAdd, Int.reduceSub, Int.reduceMul, Int.reduceNeg, Int.reduceToNat, List.reduceReplicate, String.reduceEq]
    refine (rwords_spec G _ s hs).mono ?_
    rintro _ H1 ⟨rfl, rfl⟩
    rw [hwl]
    simp (disch := omega) only [go_sem, Nat.reduceEqDiff, Nat.reduceAdd, Nat.reduceMul, Nat.reduceSub, Nat.reduceLeDiff, ↓reduceIte, reduceCtorEq, Int.reduceAdd, Int.reduceSub, Int.reduceMul, Int.reduceNeg, Int.reduceToNat, List.reduceReplicate, String.reduceEq, dStrs, List.map_cons, List.length_cons]
    refine (rnamed_spec G _ w).mono ?_
    rintro _ H1 ⟨rfl, rfl⟩
    simp (disch := omega) only [go_sem, Nat.reduceEqDiff, Nat.reduceAdd, Nat.reduceMul, Nat.reduceSub, Nat.reduceLeDiff, ↓reduceIte, reduceCtorEq, Int.reduceAdd, Int.reduceSub, Int.reduceMul, Int.reduceNeg, Int.reduceToNat, List.reduceReplicate, String.reduceEq]
    refine (rfind_spec G _ (namedC w) hp0 (by omega)).mono ?_
    rintro _ H1 ⟨rfl, rfl⟩
    rw [dRRow_at]
    obtain ⟨hfl, hnd, hfok⟩ := fieldsI_ok (namedC w)
    have hrs : ∀ x, readI s = some x → 1 ≤ namedC w → x.op = namedC w ∧ loadN (fieldsI (namedC w)) l (op0 (namedC w)) = x := fun x hx c1 => by
      obtain ⟨_, l', hl', h1, h2⟩ := rread_some hx
      rw [hwl] at hl'
      injection hl' with ha hb
      subst hb
      have hm := mayI_at (readI_iff.1 hx).1
      have hn : namedC w = x.op := by rw [ha, namedC_name (by omega) (by omega)]; omega
      rw [hn]
      exact ⟨rfl, h2⟩
    obtain ⟨fs, hfs⟩ : ∃ fs, fs = fieldsI (namedC w) := ⟨_, rfl⟩
    rw [← hfs] at hfl hnd hfok hno hrs ⊢
    simp (disch := omega) only [go_sem, Nat.reduceEqDiff, Nat.reduceAdd, Nat.reduceMul, Nat.reduceSub, Nat.reduceLeDiff, ↓reduceIte, reduceCtorEq, Int.reduceAdd, Int.reduceSub, Int.reduceMul, Int.reduceNeg, Int.reduceToNat, List.reduceReplicate, String.reduceEq, DVal.cells]
    intro r7 hr7; dsimp only at hr7
    obtain ⟨m2, m1, hr7'⟩ := upd_eq_none.1 hr7
    by_cases c1 : 1 ≤ namedC w
    · have ho : isO (namedC w) = true := by simp [isO]; omega
      rw [(rrAt_op ho).1]
      by_cases c2 : l.length = fs.length
      · have c2' : ((l.length + 1 : Nat) : Int) = (fs.length : Int) + 1 := by omega
        have hz2 : [DVal.int IntKind.u8 (namedC w), DVal.int IntKind.i64 0, DVal.int IntKind.i64 0, DVal.int IntKind.i64 0, DVal.int IntKind.i64 0, DVal.int IntKind.i64 0, DVal.int IntKind.i64 0] = dInsn (op0 (namedC w)) := rfl
        simp (disch := omega) only [go_sem, Nat.reduceEqDiff, Nat.reduceAdd, Nat.reduceMul, Nat.reduceSub, Nat.reduceLeDiff, ↓reduceIte, reduceCtorEq, Int.reduceAdd, Int.reduceSub, Int.reduceMul, Int.reduceNeg, Int.reduceToNat, List.reduceReplicate, String.reduceEq, m1, m2, c1, c2']
        rw [hz2]
        intro r9 hr9; dsimp only at hr9
        obtain ⟨n2, n1, hr9a⟩ := upd_eq_none.1 hr9
        obtain ⟨n4, n3, hr9'⟩ := upd_eq_none.1 hr9a
        simp (disch := omega) only [go_sem, Nat.reduceEqDiff, Nat.reduceAdd, Nat.reduceMul, Nat.reduceSub, Nat.reduceLeDiff, ↓reduceIte, reduceCtorEq, Int.reduceAdd, Int.reduceSub, Int.reduceMul, Int.reduceNeg, Int.reduceToNat, List.reduceReplicate, String.reduceEq, m1, m2, n1, n2, n3, n4, hz2, hone, hdr, dInsn_len, List.append_nil]
        obtain ⟨I, hI⟩ : ∃ I : Nat → (Nat → DVal) → DHeap → Prop, ∀ k env heap, I k env heap ↔ (env 0 = .str s ∧ env 2 = .optr r2 0 ∧ env 4 = .vslice (.str w :: l.map .str) (l.length + 1) ∧ env 7 = .optr r7 0 ∧ env 9 = .optr r9 0 ∧ env 10 = dI k ∧ k ≤ fs.length ∧ heap = upd (upd (upd H r2 (some (.cells (dInsn (op0 0)) 53))) r7 (some (.cells [.int .u8 (namedC w), .str (rrAt (namedC w)).2.1, .vslice (fs.flatMap dFld) fs.length] 65))) r9 (some (.cells (dInsn (loadN (fs.take k) (l.take k) (op0 (namedC w)))) 53))) := ⟨_, fun _ _ _ => Iff.rfl⟩
        refine DLoop.run I (fun k => fs.length - k) 0 ((hI _ _ _).2 ?_) ?_
        · simp (disch := omega) only [go_sem, Nat.reduceEqDiff, Nat.reduceAdd, Nat.reduceMul, Nat.reduceSub, Nat.reduceLeDiff, ↓reduceIte, reduceCtorEq, Int.reduceAdd, Int.reduceSub, Int.reduceMul, Int.reduceNeg, Int.reduceToNat, List.reduceReplicate, String.reduceEq]
          (repeat' apply And.intro) <;> (try first | rfl | assumption | omega)
        · intro k env heap hi
          obtain ⟨e0, e2, e4, e7, e9, e10, hk, rfl⟩ := (hI _ _ _).1 hi
          obtain ⟨y, hy⟩ : ∃ y, y = loadN (fs.take k) (l.take k) (op0 (namedC w)) := ⟨_, rfl⟩
          rw [← hy]
          by_cases hlt : k < fs.length
          · have hfk := List.getElem?_eq_getElem hlt
            have hlk := List.getElem?_eq_getElem (l := l) (i := k) (by omega)
            have hg0 : (fs.flatMap dFld)[k * 3]? = (dFld fs[k])[0]? := flat_get dFld_length fs k hlt 0 (by omega)
            obtain ⟨p, hp⟩ : ∃ p, fs[k] = p := ⟨_, rfl⟩
            obtain ⟨u, hu⟩ : ∃ u, l[k] = u := ⟨_, rfl⟩
            rw [hp] at hfk hg0
            rw [hu] at hlk
            have hpF := (hfok p (List.mem_of_getElem? hfk)).1
            have hsn := loadN_snoc (x := op0 (namedC w)) hfk hlk
            rw [← hy] at hsn
            have hgl : (DVal.str w :: l.map DVal.str)[k + 1]? = some (.str u) := by rw [List.getElem?_cons_succ, List.getElem?_map, hlk]; rfl
            have hk1 : ((k : Int) + 1).toNat = k + 1 := by omega
            have hul : u.length ≤ 35184372088832 := by
              have := splitL_mem s [] u (by rw [show splitL s [] = fieldsL s from rfl, hwl]; exact List.mem_cons_of_mem _ (List.mem_of_getElem? hlk))
              simp at this; omega
            simp (disch := omega) only [go_sem, Nat.reduceEqDiff, Nat.reduceAdd, Nat.reduceMul, Nat.reduceSub, Nat.reduceLeDiff, ↓reduceIte, reduceCtorEq, Int.reduceAdd, Int.reduceSub, Int.reduceMul, Int.reduceNeg, Int.reduceToNat, List.reduceReplicate, String.reduceEq, e0, e2, e4, e7, e9, e10, hlt, m1, m2, n1, n2, n3, n4]
            refine dwp_draws (by kernel_rfl) (.take 0 (.take 1 (.take 2 (.take 3 (.take 4 (.take 5 (.take 6 (.take 7 (.take 8 (.take 9 (.take 10 (.take 11 (.go 12 [6, 2, 0] (.go 13 [11, 2] (.go 14 [] .done))))))))))))))) (by kernel_rfl) ?_
            simp (disch := omega) only [go_sem, Nat.reduceEqDiff, Nat.reduceAdd, Nat.reduceMul, Nat.reduceSub, Nat.reduceLeDiff, ↓reduceIte, reduceCtorEq, Int.reduceAdd, Int.reduceSub, Int.reduceMul, Int.reduceNeg, Int.reduceToNat, List.reduceReplicate, String.reduceEq, e0, e2, e4, e7, e9, e10, hlt, m1, m2, n1, n2, n3, n4, hdt, dInsn_len, flat_len dFld_length, hg0, dFld, hk1, hgl, Int.toNat_natCast, List.length_cons, List.length_map]
            refine (number_spec G _ u hul).mono ?_
            rintro _ H1 ⟨rfl, rfl⟩
            simp (disch := omega) only [go_sem, Nat.reduceEqDiff, Nat.reduceAdd, Nat.reduceMul, Nat.reduceSub, Nat.reduceLeDiff, ↓reduceIte, reduceCtorEq, Int.reduceAdd, Int.reduceSub, Int.reduceMul, Int.reduceNeg, Int.reduceToNat, List.reduceReplicate, String.reduceEq, e0, e2, e4, e7, e9, e10, hlt, m1, m2, n1, n2, n3, n4]
            refine (with_spec G _ y p.1 (numC u) hpF).mono ?_
            rintro _ H1 ⟨rfl, rfl⟩
            simp (disch := omega) only [go_sem, Nat.reduceEqDiff, Nat.reduceAdd, Nat.reduceMul, Nat.reduceSub, Nat.reduceLeDiff, ↓reduceIte, reduceCtorEq, Int.reduceAdd, Int.reduceSub, Int.reduceMul, Int.reduceNeg, Int.reduceToNat, List.reduceReplicate, String.reduceEq, e0, e2, e4, e7, e9, e10, hlt, m1, m2, n1, n2, n3, n4, hone, hdr, dInsn_len, List.append_nil, DVal.cells]
            refine ⟨k + 1, _, GhostS.refl _, (hI _ _ _).2 ?_, by omega⟩
            simp (disch := omega) only [go_sem, Nat.reduceEqDiff, Nat.reduceAdd, Nat.reduceMul, Nat.reduceSub, Nat.reduceLeDiff, ↓reduceIte, reduceCtorEq, Int.reduceAdd, Int.reduceSub, Int.reduceMul, Int.reduceNeg, Int.reduceToNat, List.reduceReplicate, String.reduceEq, e0, e2, e4, e7, e9, e10, hsn]
            (repeat' apply And.intro) <;> (try first | rfl | assumption | omega)
          · have hkl : k = fs.length := by omega
            subst hkl
            rw [List.take_length, ← c2, List.take_length] at hy
            have hyo : y.op = namedC w := by rw [hy, loadN_op]; rfl
            have hrs' : ∀ x, readI s = some x → x = y := fun x hx => by rw [hy]; exact (hrs x hx c1).2.symm
            simp (disch := omega) only [go_sem, Nat.reduceEqDiff, Nat.reduceAdd, Nat.reduceMul, Nat.reduceSub, Nat.reduceLeDiff, ↓reduceIte, reduceCtorEq, Int.reduceAdd, Int.reduceSub, Int.reduceMul, Int.reduceNeg, Int.reduceToNat, List.reduceReplicate, String.reduceEq, e0, e2, e4, e7, e9, e10, hlt, m1, m2, n1, n2, n3, n4, hdt, dInsn_len]
            refine (rtextI_spec G _ y (by omega) (by omega)).mono ?_
            rintro _ H1 ⟨rfl, rfl⟩
            cases hm : mayI y with
            | false =>
              have hrd := readID_none (s := s) fun x hx => by have h1 := (readI_iff.1 hx).1; rw [hrs' x hx, hm] at h1; cases h1
              have ht : textID y = ([], 2) := by rw [textID, hm]; rfl
              rw [ht]
              simp (disch := omega) only [go_sem, Nat.reduceEqDiff, Nat.reduceAdd, Nat.reduceMul, Nat.reduceSub, Nat.reduceLeDiff, ↓reduceIte, reduceCtorEq, Int.reduceAdd, Int.reduceSub, Int.reduceMul, Int.reduceNeg, Int.reduceToNat, List.reduceReplicate, String.reduceEq, e0, e2, e4, e7, e9, e10, m1, m2, n1, n2, n3, n4, hz, hone, hdr, hdt, dInsn_len, List.append_nil]
              exact DFin.sub (show Sub H _ from (by repeat (first | exact Sub.refl _ | assumption | refine Sub.up ?_ (by assumption) _))) (DFin.refl ⟨by rw [hrd], rfl⟩)
            | true =>
              have ht : textID y = (textI y, 0) := by rw [textID, hm]; rfl
              rw [ht]
              by_cases c3 : textI y = s
              · have hrd : readID s = (y, 0) := by rw [readID, readI_iff.2 ⟨hm, c3⟩]
                simp (disch := omega) only [go_sem, Nat.reduceEqDiff, Nat.reduceAdd, Nat.reduceMul, Nat.reduceSub, Nat.reduceLeDiff, ↓reduceIte, reduceCtorEq, Int.reduceAdd, Int.reduceSub, Int.reduceMul, Int.reduceNeg, Int.reduceToNat, List.reduceReplicate, String.reduceEq, e0, e2, e4, e7, e9, e10, m1, m2, n1, n2, n3, n4, hz, hone, hdr, hdt, dInsn_len, List.append_nil, c3, DVal.cells]
                exact DFin.sub (show Sub H _ from (by repeat (first | exact Sub.refl _ | assumption | refine Sub.up ?_ (by assumption) _))) (DFin.refl ⟨by rw [hrd], rfl⟩)
              · have hrd := readID_none (s := s) fun x hx => by have h1 := (readI_iff.1 hx).2; rw [hrs' x hx] at h1; exact c3 h1
                simp (disch := omega) only [go_sem, Nat.reduceEqDiff, Nat.reduceAdd, Nat.reduceMul, Nat.reduceSub, Nat.reduceLeDiff, ↓reduceIte, reduceCtorEq, Int.reduceAdd, Int.reduceSub, Int.reduceMul, Int.reduceNeg, Int.reduceToNat, List.reduceReplicate, String.reduceEq, e0, e2, e4, e7, e9, e10, m1, m2, n1, n2, n3, n4, hz, hone, hdr, hdt, dInsn_len, List.append_nil, c3]
                exact DFin.sub (show Sub H _ from (by repeat (first | exact Sub.refl _ | assumption | refine Sub.up ?_ (by assumption) _))) (DFin.refl ⟨by rw [hrd], rfl⟩)
      · have hrd := hno (.inr c2)
        have c2' : ¬ ((l.length + 1 : Nat) : Int) = (fs.length : Int) + 1 := by omega
        simp (disch := omega) only [go_sem, Nat.reduceEqDiff, Nat.reduceAdd, Nat.reduceMul, Nat.reduceSub, Nat.reduceLeDiff, ↓reduceIte, reduceCtorEq, Int.reduceAdd, Int.reduceSub, Int.reduceMul, Int.reduceNeg, Int.reduceToNat, List.reduceReplicate, String.reduceEq, m1, m2, c1, c2', hz, hone, hdr, hdt, dInsn_len, List.append_nil]
        exact DFin.sub (show Sub H _ from (by repeat (first | exact Sub.refl _ | assumption | refine Sub.up ?_ (by assumption) _))) (DFin.refl ⟨by rw [hrd], rfl⟩)
    · have hrd := hno (.inl c1)
      simp (disch := omega) only [go_sem, Nat.reduceEqDiff, Nat.reduceAdd, Nat.reduceMul, Nat.reduceSub, Nat.reduceLeDiff, ↓reduceIte, reduceCtorEq, Int.reduceAdd, Int.reduceSub, Int.reduceMul, Int.reduceNeg, Int.reduceToNat, List.reduceReplicate, String.reduceEq, m1, m2, c1, hz, hone, hdr, hdt, dInsn_len, List.append_nil]
      exact DFin.sub (show Sub H _ from (by repeat (first | exact Sub.refl _ | assumption | refine Sub.up ?_ (by assumption) _))) (DFin.refl ⟨by rw [hrd], rfl⟩)
  · have hrd := readID_none (s := s) fun x hx => h200 (rread_some hx).1
    simp (disch := omega) only [go_sem, Nat.reduceEqDiff, Nat.reduceAdd, Nat.reduceMul, Nat.reduceSub, Nat.reduceLeDiff, ↓reduceIte, reduceCtorEq, Int.reduceAdd, Int.reduceSub, Int.reduceMul, Int.reduceNeg, Int.reduceToNat, List.reduceReplicate, String.reduceEq, hz, hone, hdr, hdt, dInsn_len, List.append_nil]
    exact DFin.dropA r2 hr2 (DFin.refl ⟨by rw [hrd], rfl⟩)
end Go.Dl

-- Chapter 22: Read of the package.
namespace Go.Dl
open Go Go.Proofs
set_option maxRecDepth 10000

theorem overN6 (H : DHeap) {a b c d e f : Nat} (oa ob oc od oe og : DObj) : upd (upd (upd (upd (upd (upd H a (some oa)) b (some ob)) c (some oc)) d (some od)) e (some oe)) f (some og) = over H (upd (upd (upd (upd (upd (upd h0 a (some oa)) b (some ob)) c (some oc)) d (some od)) e (some oe)) f (some og)) := by
  rw [← upd_over, ← upd_over, ← upd_over, ← upd_over, ← upd_over, ← upd_over, over_h0]
theorem dStrs_tail (u : List UInt8) (m : List (List UInt8)) : DVal.vslice (List.drop 1 (DVal.str u :: m.map DVal.str)) (m.length + 1 - 1) = dStrs m := rfl
theorem loadI_none {p : Int × Int × Int} {fs : List (Int × Int × Int)} {u : List UInt8} {l : List (List UInt8)} {y : Insn} (h : pI u = none) : loadI (p :: fs) (u :: l) y = none := by simp only [loadI, h]
theorem loadI_some {p : Int × Int × Int} {fs : List (Int × Int × Int)} {u : List UInt8} {l : List (List UInt8)} {y : Insn} {v : Int} (h : pI u = some v) : loadI (p :: fs) (u :: l) y = loadI fs l (setI y p.1 v) := by simp only [loadI, h]
theorem loadI_op : ∀ (fs : List (Int × Int × Int)) (l : List (List UInt8)) (x y : Insn), loadI fs l x = some y → y.op = x.op
  | [], l, x, y, h => by simp only [loadI] at h; cases h; rfl
  | f :: fs, [], x, y, h => by simp [loadI] at h
  | f :: fs, w :: l, x, y, h => by
    cases e : pI w with
    | none => rw [loadI_none e] at h; cases h
    | some v => rw [loadI_some e] at h; rw [loadI_op fs l _ _ h, set_op]

set_option maxHeartbeats 8000000 in
theorem readI_spec {G : Nat → DVal} (hG : GI G) (H : DHeap) (s : List UInt8) (hs : s.length ≤ 1000000000) : DCalls Tryd.prog G 42 [.str s] H (DRet (.tuple [.agg (dInsn (readID s).1), dI (readID s).2]) H) := by
  have hz : [DVal.int IntKind.u8 0, DVal.int IntKind.i64 0, DVal.int IntKind.i64 0, DVal.int IntKind.i64 0, DVal.int IntKind.i64 0, DVal.int IntKind.i64 0, DVal.int IntKind.i64 0] = dInsn (op0 0) := rfl
  have hone : ∀ y, (dInsn y).all (fun d => d.one) = true := fun _ => rfl
  have hdr : ∀ y, (dInsn y).drop 7 = [] := fun _ => rfl
  have hdt : ∀ y, (dInsn y).take 7 = dInsn y := fun _ => rfl
  obtain ⟨w, l, hwl⟩ := List.exists_cons_of_ne_nil (splitL_ne s [])
  rw [show splitL s [] = fieldsL s from rfl] at hwl
  have hsp : splitBy 32 s [] = w :: l := by rw [splitBy_32]; exact hwl
  have hp0 := (namedC_bounds w).1
  have hp1 := (namedC_bounds w).2
  have hR0 : namedC w = 0 → readID s = (op0 0, 5) := fun h => by rw [readID, readI, hwl]; simp only [h, if_true]
  have hRn : loadI (fieldsI (namedC w)) l (op0 (namedC w)) = none → readID s = (op0 0, 5) := fun h => by rw [readID, readI, hwl]; simp only [h]; split <;> simp_all
  have hRs : ∀ y, loadI (fieldsI (namedC w)) l (op0 (namedC w)) = some y → namedC w ≠ 0 → readID s = if mayI y = true ∧ textI y = s then (y, 0) else (op0 0, 5) := fun y h h1 => by rw [readID, readI, hwl]; simp only [h, if_neg h1]; by_cases c : mayI y = true ∧ textI y = s <;> simp [c]
  refine dcalls_intro Tryd.func42 Tryd.call42 rfl (by kernel_rfl) ?_
  simp (disch := omega) only [go_sem, Nat.reduceEqDiff, Nat.reduceAdd, Nat.reduceMul, Nat.reduceSub, Nat.reduceLeDiff, ↓reduceIte, reduceCtorEq, Int.reduceAdd, Int.reduceSub, Int.reduceMul, Int.reduceNeg, Int.reduceToNat, List.reduceReplicate, String.reduceEq]
  rw [hz]
  intro r2 hr2; dsimp only at hr2
  simp (disch := omega) only [go_sem, Nat.reduceEqDiff, Nat.reduceAdd, Nat.reduceMul, Nat.reduceSub, Nat.reduceLeDiff, ↓reduceIte, reduceCtorEq, Int.reduceAdd, Int.reduceSub, Int.reduceMul, Int.reduceNeg, Int.reduceToNat, List.reduceReplicate, String.reduceEq]
  intro r3 hr3; dsimp only at hr3
  obtain ⟨a2, a1, hr3'⟩ := upd_eq_none.1 hr3
  simp (disch := omega) only [go_sem, Nat.reduceEqDiff, Nat.reduceAdd, Nat.reduceMul, Nat.reduceSub, Nat.reduceLeDiff, ↓reduceIte, reduceCtorEq, Int.reduceAdd, Int.reduceSub, Int.reduceMul, Int.reduceNeg, Int.reduceToNat, List.reduceReplicate, String.reduceEq]
  refine (split_spec (G := G) hG.gt s 32 (by omega)).mono ?_
  rintro _ H1 ⟨rfl, rfl⟩
  rw [hsp]
  simp (disch := omega) only [go_sem, Nat.reduceEqDiff, Nat.reduceAdd, Nat.reduceMul, Nat.reduceSub, Nat.reduceLeDiff, ↓reduceIte, reduceCtorEq, Int.reduceAdd, Int.reduceSub, Int.reduceMul, Int.reduceNeg, Int.reduceToNat, List.reduceReplicate, String.reduceEq, dStrs, List.map_cons, List.length_cons]
  intro r4 hr4; dsimp only at hr4
  obtain ⟨a4, a3, hr4a⟩ := upd_eq_none.1 hr4
  obtain ⟨a6, a5, hr4'⟩ := upd_eq_none.1 hr4a
  simp (disch := omega) only [go_sem, Nat.reduceEqDiff, Nat.reduceAdd, Nat.reduceMul, Nat.reduceSub, Nat.reduceLeDiff, ↓reduceIte, reduceCtorEq, Int.reduceAdd, Int.reduceSub, Int.reduceMul, Int.reduceNeg, Int.reduceToNat, List.reduceReplicate, String.reduceEq, a1, a2, a3, a4, a5, a6]
  refine (named_spec hG.rows _ w).mono ?_
  rintro _ H1 ⟨rfl, rfl⟩
  simp (disch := omega) only [go_sem, Nat.reduceEqDiff, Nat.reduceAdd, Nat.reduceMul, Nat.reduceSub, Nat.reduceLeDiff, ↓reduceIte, reduceCtorEq, Int.reduceAdd, Int.reduceSub, Int.reduceMul, Int.reduceNeg, Int.reduceToNat, List.reduceReplicate, String.reduceEq]
  intro r6 hr6; dsimp only at hr6
  obtain ⟨a8, a7, hr6a⟩ := upd_eq_none.1 hr6
  obtain ⟨a10, a9, hr6b⟩ := upd_eq_none.1 hr6a
  obtain ⟨a12, a11, hr6'⟩ := upd_eq_none.1 hr6b
  simp (disch := omega) only [go_sem, Nat.reduceEqDiff, Nat.reduceAdd, Nat.reduceMul, Nat.reduceSub, Nat.reduceLeDiff, ↓reduceIte, reduceCtorEq, Int.reduceAdd, Int.reduceSub, Int.reduceMul, Int.reduceNeg, Int.reduceToNat, List.reduceReplicate, String.reduceEq]
  have hz2 : [DVal.int IntKind.u8 (namedC w), DVal.int IntKind.i64 0, DVal.int IntKind.i64 0, DVal.int IntKind.i64 0, DVal.int IntKind.i64 0, DVal.int IntKind.i64 0, DVal.int IntKind.i64 0] = dInsn (op0 (namedC w)) := rfl
  rw [hz2]
  intro r7 hr7; dsimp only at hr7
  obtain ⟨a14, a13, hr7a⟩ := upd_eq_none.1 hr7
  obtain ⟨a16, a15, hr7b⟩ := upd_eq_none.1 hr7a
  obtain ⟨a18, a17, hr7c⟩ := upd_eq_none.1 hr7b
  obtain ⟨a20, a19, hr7'⟩ := upd_eq_none.1 hr7c
  obtain ⟨ok, hok⟩ : ∃ ok, ok = decide (1 ≤ namedC w) := ⟨_, rfl⟩
  rw [← hok]
  simp (disch := omega) only [go_sem, Nat.reduceEqDiff, Nat.reduceAdd, Nat.reduceMul, Nat.reduceSub, Nat.reduceLeDiff, ↓reduceIte, reduceCtorEq, Int.reduceAdd, Int.reduceSub, Int.reduceMul, Int.reduceNeg, Int.reduceToNat, List.reduceReplicate, String.reduceEq, a1, a2, a3, a4, a5, a6, a7, a8, a9, a10, a11, a12, a13, a14, a15, a16, a17, a18, a19, a20, hz2, hone, hdr, dInsn_len, List.append_nil, List.length_cons, List.length_map]
  refine (fieldsf_spec (G := G) r7).mono ?_
  rintro _ H1 ⟨rfl, rfl⟩
  simp (disch := omega) only [go_sem, Nat.reduceEqDiff, Nat.reduceAdd, Nat.reduceMul, Nat.reduceSub, Nat.reduceLeDiff, ↓reduceIte, reduceCtorEq, Int.reduceAdd, Int.reduceSub, Int.reduceMul, Int.reduceNeg, Int.reduceToNat, List.reduceReplicate, String.reduceEq]
  obtain ⟨hfl, hnd, hfok⟩ := fieldsI_ok (namedC w)
  obtain ⟨fs, hfs⟩ : ∃ fs, fs = fieldsI (namedC w) := ⟨_, rfl⟩
  rw [← hfs] at hfl hnd hfok hRn hRs
  refine dwp_rangeX 87 [.vptr [.optr r7 0] 0] (fs.map fun p => [dFieldV r7 p]) _ (upd (upd (upd (upd (upd (upd h0 r2 (some (.cells (dInsn (op0 0)) 53))) r3 (some (.cells [dI 0] 25))) r4 (some (.cells [.vslice (.str w :: l.map .str) (l.length + 1)] 133))) r6 (some (.cells [.bool ok] 4))) r7 (some (.cells (dInsn (op0 (namedC w))) 53))) r4 (some (.cells [dStrs l] 133)))
    (by rw [hfs]; exact fields_iter (x := op0 (namedC w)) hG hp0 (by show namedC w < 256; omega) (by simp [upd, a16])) rfl (by kernel_rfl) (by intro z hz; obtain ⟨p, _, rfl⟩ := List.mem_map.1 hz; rfl) (overN6 _ _ _ _ _ _ _) (((((((Disj.h0 _).hi hr2 _).hi hr3' _).hi hr4' _).hi hr6' _).hi hr7' _).hi hr4' _)
    (fun k X => ∃ y m, X r2 = some (.cells (dInsn (op0 0)) 53) ∧ X r3 = some (.cells [dI 0] 25) ∧ X r4 = some (.cells [dStrs m] 133) ∧ X r6 = some (.cells [.bool ok] 4) ∧ X r7 = some (.cells (dInsn y) 53) ∧ m.length ≤ l.length ∧ (∀ u ∈ m, u.length ≤ s.length) ∧ loadI fs l (op0 (namedC w)) = loadI (fs.drop k) m y)
    (fun j X => j = .ret ∧ X r2 = some (.cells (dInsn (op0 0)) 53) ∧ X r3 = some (.cells [dI 5] 25) ∧ readID s = (op0 0, 5)) ⟨op0 (namedC w), l, by simp [upd, a1, a2, a3, a4, a5, a6, a7, a8, a9, a10, a11, a12, a13, a14, a15, a16, a17, a18, a19, a20], by simp [upd, a1, a2, a3, a4, a5, a6, a7, a8, a9, a10, a11, a12, a13, a14, a15, a16, a17, a18, a19, a20], by simp [upd], by simp [upd, a1, a2, a3, a4, a5, a6, a7, a8, a9, a10, a11, a12, a13, a14, a15, a16, a17, a18, a19, a20], by simp [upd, a1, a2, a3, a4, a5, a6, a7, a8, a9, a10, a11, a12, a13, a14, a15, a16, a17, a18, a19, a20], Nat.le_refl _, fun u hu => by have := splitL_mem s [] u (by rw [show splitL s [] = fieldsL s from rfl, hwl]; exact List.mem_cons_of_mem _ hu); simpa using this, rfl⟩ ?_ ?_ ?_
  · rintro k z Hi X hd hzz ⟨y, m, hX2, hX3, hX4, hX6, hX7, hml, hmu, hld⟩
    rw [List.getElem?_map, Option.map_eq_some_iff] at hzz
    obtain ⟨p, hfk, rfl⟩ := hzz
    obtain ⟨hkl, hpe⟩ := List.getElem?_eq_some_iff.1 hfk
    have hpF := (hfok p (List.mem_of_getElem? hfk)).1
    have hdc : fs.drop k = p :: fs.drop (k + 1) := by rw [List.drop_eq_getElem_cons hkl, hpe]
    rw [hdc] at hld
    have x2 : over Hi X r2 = some (.cells (dInsn (op0 0)) 53) := over_x hX2
    have x3 : over Hi X r3 = some (.cells [dI 0] 25) := over_x hX3
    have x4 : over Hi X r4 = some (.cells [dStrs m] 133) := over_x hX4
    have x6 : over Hi X r6 = some (.cells [.bool ok] 4) := over_x hX6
    have x7 : over Hi X r7 = some (.cells (dInsn y) 53) := over_x hX7
    simp (disch := omega) only [go_sem, Nat.reduceEqDiff, Nat.reduceAdd, Nat.reduceMul, Nat.reduceSub, Nat.reduceLeDiff, ↓reduceIte, reduceCtorEq, Int.reduceAdd, Int.reduceSub, Int.reduceMul, Int.reduceNeg, Int.reduceToNat, List.reduceReplicate, String.reduceEq, dFieldV, DVal.cells]
    intro r8 hr8; dsimp only at hr8
    obtain ⟨hH8, hX8⟩ := over_eq_none.1 hr8
    have n2 : ¬ r2 = r8 := fun e => by subst e; rw [hX2] at hX8; cases hX8
    have n3 : ¬ r3 = r8 := fun e => by subst e; rw [hX3] at hX8; cases hX8
    have n4 : ¬ r4 = r8 := fun e => by subst e; rw [hX4] at hX8; cases hX8
    have n6 : ¬ r6 = r8 := fun e => by subst e; rw [hX6] at hX8; cases hX8
    have n7 : ¬ r7 = r8 := fun e => by subst e; rw [hX7] at hX8; cases hX8
    have hbad : ∀ o8, Disj Hi (upd (upd (upd X r8 (some o8)) r2 (some (.cells (dInsn (op0 0)) 53))) r3 (some (.cells [dI 5] 25))) := fun o8 => ((hd.hi hH8 _).st (r := r2) (by simp only [upd, if_neg n2]; exact hX2) _).st (r := r3) (by simp only [upd, if_neg a2, if_neg n3]; exact hX3) _
    cases hok2 : ok with
    | false =>
      have hrd := hR0 (by have := of_decide_eq_false (hok.symm.trans hok2); omega)
      rw [hok2] at x6
      simp (disch := omega) only [go_sem, Nat.reduceEqDiff, Nat.reduceAdd, Nat.reduceMul, Nat.reduceSub, Nat.reduceLeDiff, ↓reduceIte, reduceCtorEq, Int.reduceAdd, Int.reduceSub, Int.reduceMul, Int.reduceNeg, Int.reduceToNat, List.reduceReplicate, String.reduceEq, n2, n3, n4, n6, n7, x2, x3, x4, x6, x7, a1, a2, a3, a4, a5, a6, a7, a8, a9, a10, a11, a12, a13, a14, a15, a16, a17, a18, a19, a20, hz, hone, hdr, hdt, dInsn_len, List.append_nil, List.length_cons, List.length_nil]
      refine ⟨_, rfl, hbad _, ?_, ?_, hrd⟩
      · simp [upd, a1]
      · simp [upd]
    | true =>
      rw [hok2] at x6
      cases m with
      | nil =>
        have hrd := hRn (by rw [hld]; rfl)
        simp (disch := omega) only [go_sem, Nat.reduceEqDiff, Nat.reduceAdd, Nat.reduceMul, Nat.reduceSub, Nat.reduceLeDiff, ↓reduceIte, reduceCtorEq, Int.reduceAdd, Int.reduceSub, Int.reduceMul, Int.reduceNeg, Int.reduceToNat, List.reduceReplicate, String.reduceEq, n2, n3, n4, n6, n7, x2, x3, x4, x6, x7, a1, a2, a3, a4, a5, a6, a7, a8, a9, a10, a11, a12, a13, a14, a15, a16, a17, a18, a19, a20, hz, hone, hdr, hdt, dInsn_len, List.append_nil, List.length_cons, List.length_nil, dStrs, List.map_nil]
        refine ⟨_, rfl, hbad _, ?_, ?_, hrd⟩
        · simp [upd, a1]
        · simp [upd]
      | cons u m =>
        have hul := hmu u (by simp)
        have hm1 : ((m.length + 1 : Nat) : Int) ≠ 0 := by omega
        have hm2 : (0 : Int) < ((m.length + 1 : Nat) : Int) := by omega
        simp (disch := omega) only [go_sem, Nat.reduceEqDiff, Nat.reduceAdd, Nat.reduceMul, Nat.reduceSub, Nat.reduceLeDiff, ↓reduceIte, reduceCtorEq, Int.reduceAdd, Int.reduceSub, Int.reduceMul, Int.reduceNeg, Int.reduceToNat, List.reduceReplicate, String.reduceEq, n2, n3, n4, n6, n7, x2, x3, x4, x6, x7, a1, a2, a3, a4, a5, a6, a7, a8, a9, a10, a11, a12, a13, a14, a15, a16, a17, a18, a19, a20, dStrs, List.map_cons, List.length_cons, hm1, hm2]
        refine (parseInt_spec (G := G) hG.gt u (by omega)).mono ?_
        rintro _ H2 ⟨⟨v, er, rfl, hpi1, hpi2⟩, rfl⟩
        cases hp : pI u with
        | none =>
          have hrd := hRn (by rw [hld]; exact loadI_none hp)
          obtain ⟨t, xx, rfl⟩ := hpi2 fun n hn => by rw [pI, hn] at hp; cases hp
          simp (disch := omega) only [go_sem, Nat.reduceEqDiff, Nat.reduceAdd, Nat.reduceMul, Nat.reduceSub, Nat.reduceLeDiff, ↓reduceIte, reduceCtorEq, Int.reduceAdd, Int.reduceSub, Int.reduceMul, Int.reduceNeg, Int.reduceToNat, List.reduceReplicate, String.reduceEq, n2, n3, n4, n6, n7, x2, x3, x4, x6, x7, a1, a2, a3, a4, a5, a6, a7, a8, a9, a10, a11, a12, a13, a14, a15, a16, a17, a18, a19, a20, hz, hone, hdr, hdt, dInsn_len, List.append_nil, List.length_cons, List.length_nil]
          refine ⟨_, rfl, hbad _, ?_, ?_, hrd⟩
          · simp [upd, a1]
          · simp [upd]
        | some v2 =>
          have hpn : Lib.parseIntB 64 u = .ok v2 := by
            rw [pI] at hp
            split at hp
            · rename_i h; rw [h, Option.some.inj hp]
            · cases hp
          obtain ⟨rfl, rfl⟩ := hpi1 v2 hpn
          rw [loadI_some hp] at hld
          simp (disch := omega) only [go_sem, Nat.reduceEqDiff, Nat.reduceAdd, Nat.reduceMul, Nat.reduceSub, Nat.reduceLeDiff, ↓reduceIte, reduceCtorEq, Int.reduceAdd, Int.reduceSub, Int.reduceMul, Int.reduceNeg, Int.reduceToNat, List.reduceReplicate, String.reduceEq, n2, n3, n4, n6, n7, x2, x3, x4, x6, x7, a1, a2, a3, a4, a5, a6, a7, a8, a9, a10, a11, a12, a13, a14, a15, a16, a17, a18, a19, a20]
          refine (setF_spec (G := G) (x := y) (e := 53) hpF _ (by rw [over_upd, if_neg n7, over_x hX7])).mono ?_
          rintro _ H2 ⟨rfl, rfl⟩
          simp (disch := omega) only [go_sem, Nat.reduceEqDiff, Nat.reduceAdd, Nat.reduceMul, Nat.reduceSub, Nat.reduceLeDiff, ↓reduceIte, reduceCtorEq, Int.reduceAdd, Int.reduceSub, Int.reduceMul, Int.reduceNeg, Int.reduceToNat, List.reduceReplicate, String.reduceEq, n2, n3, n4, n6, n7, x2, x3, x4, x6, x7, a1, a2, a3, a4, a5, a6, a7, a8, a9, a10, a11, a12, a13, a14, a15, a16, a17, a18, a19, a20, List.length_cons, List.length_nil, List.length_map, dStrs, List.map_cons, List.drop_succ_cons, List.drop_zero, Nat.add_sub_cancel]
          refine ⟨_, rfl, ((hd.hi hH8 _).st (r := r7) (by simp only [upd, if_neg n7]; exact hX7) _).st (r := r4) (by simp only [upd, if_neg a15, if_neg n4]; exact hX4) _, setI y p.1 v, m, ?_, ?_, ?_, ?_, ?_, ?_, fun u2 hu2 => hmu u2 (by simp [hu2]), hld⟩
          · simp only [upd, if_neg a5, if_neg a19, if_neg n2]; exact hX2
          · simp only [upd, if_neg a3, if_neg a17, if_neg n3]; exact hX3
          · simp [upd]
          · simp only [upd, if_neg a8, if_neg a13, if_neg n6]; rw [hX6, hok2]
          · simp [upd, a16]
          · simp at hml; omega
  · rintro X hd ⟨y, m, hX2, hX3, hX4, hX6, hX7, hml, hmu, hld⟩
    rw [List.length_map, List.drop_length, loadI] at hld
    have x2 : over H X r2 = some (.cells (dInsn (op0 0)) 53) := over_x hX2
    have x3 : over H X r3 = some (.cells [dI 0] 25) := over_x hX3
    have x6 : over H X r6 = some (.cells [.bool ok] 4) := over_x hX6
    have x7 : over H X r7 = some (.cells (dInsn y) 53) := over_x hX7
    have hyo : y.op = namedC w := loadI_op _ _ _ _ hld
    have hbad : Disj H (upd (upd X r2 (some (.cells (dInsn (op0 0)) 53))) r3 (some (.cells [dI 5] 25))) := (hd.st (r := r2) hX2 _).st (r := r3) (by simp only [upd, if_neg a2]; exact hX3) _
    have hgood : Disj H (upd (upd X r2 (some (.cells (dInsn y) 53))) r3 (some (.cells [dI 0] 25))) := (hd.st (r := r2) hX2 _).st (r := r3) (by simp only [upd, if_neg a2]; exact hX3) _
    simp (disch := omega) only [go_sem, Nat.reduceEqDiff, Nat.reduceAdd, Nat.reduceMul, Nat.reduceSub, Nat.reduceLeDiff, ↓reduceIte, reduceCtorEq, Int.reduceAdd, Int.reduceSub, Int.reduceMul, Int.reduceNeg, Int.reduceToNat, List.reduceReplicate, String.reduceEq, x2, x3, x6, x7, hdt, dInsn_len]
    refine (textI_spec hG _ y (by omega) (by omega)).mono ?_
    rintro _ H1 ⟨rfl, rfl⟩
    cases hok2 : ok with
    | false =>
      have hrd := hR0 (by have := of_decide_eq_false (hok.symm.trans hok2); omega)
      rw [hok2] at x6
      simp (disch := omega) only [go_sem, Nat.reduceEqDiff, Nat.reduceAdd, Nat.reduceMul, Nat.reduceSub, Nat.reduceLeDiff, ↓reduceIte, reduceCtorEq, Int.reduceAdd, Int.reduceSub, Int.reduceMul, Int.reduceNeg, Int.reduceToNat, List.reduceReplicate, String.reduceEq, x2, x3, x6, x7, a1, a2, a3, a4, a5, a6, a7, a8, a9, a10, a11, a12, a13, a14, a15, a16, a17, a18, a19, a20, hz, hone, hdr, hdt, dInsn_len, List.append_nil, List.length_cons, List.length_nil]
      exact DFin.sub (sub_over (Sub.refl _) hbad) (DFin.refl ⟨by rw [hrd], rfl⟩)
    | true =>
      have hnz : namedC w ≠ 0 := by have := of_decide_eq_true (hok.symm.trans hok2); omega
      rw [hok2] at x6
      have hR := hRs y hld hnz
      cases hm : mayI y with
      | false =>
        have hrd : readID s = (op0 0, 5) := by rw [hR, if_neg (by rw [hm]; simp)]
        have ht : textID y = ([], 2) := by rw [textID, hm]; rfl
        rw [ht]
        simp (disch := omega) only [go_sem, Nat.reduceEqDiff, Nat.reduceAdd, Nat.reduceMul, Nat.reduceSub, Nat.reduceLeDiff, ↓reduceIte, reduceCtorEq, Int.reduceAdd, Int.reduceSub, Int.reduceMul, Int.reduceNeg, Int.reduceToNat, List.reduceReplicate, String.reduceEq, x2, x3, x6, x7, a1, a2, a3, a4, a5, a6, a7, a8, a9, a10, a11, a12, a13, a14, a15, a16, a17, a18, a19, a20, hz, hone, hdr, hdt, dInsn_len, List.append_nil, List.length_cons, List.length_nil]
        exact DFin.sub (sub_over (Sub.refl _) hbad) (DFin.refl ⟨by rw [hrd], rfl⟩)
      | true =>
        have ht : textID y = (textI y, 0) := by rw [textID, hm]; rfl
        rw [ht]
        by_cases c3 : textI y = s
        · have hrd : readID s = (y, 0) := by rw [hR, if_pos ⟨hm, c3⟩]
          simp (disch := omega) only [go_sem, Nat.reduceEqDiff, Nat.reduceAdd, Nat.reduceMul, Nat.reduceSub, Nat.reduceLeDiff, ↓reduceIte, reduceCtorEq, Int.reduceAdd, Int.reduceSub, Int.reduceMul, Int.reduceNeg, Int.reduceToNat, List.reduceReplicate, String.reduceEq, x2, x3, x6, x7, a1, a2, a3, a4, a5, a6, a7, a8, a9, a10, a11, a12, a13, a14, a15, a16, a17, a18, a19, a20, hz, hone, hdr, hdt, dInsn_len, List.append_nil, List.length_cons, List.length_nil, c3]
          exact DFin.sub (sub_over (Sub.refl _) hgood) (DFin.refl ⟨by rw [hrd], rfl⟩)
        · have hrd : readID s = (op0 0, 5) := by rw [hR, if_neg (fun h => c3 h.2)]
          simp (disch := omega) only [go_sem, Nat.reduceEqDiff, Nat.reduceAdd, Nat.reduceMul, Nat.reduceSub, Nat.reduceLeDiff, ↓reduceIte, reduceCtorEq, Int.reduceAdd, Int.reduceSub, Int.reduceMul, Int.reduceNeg, Int.reduceToNat, List.reduceReplicate, String.reduceEq, x2, x3, x6, x7, a1, a2, a3, a4, a5, a6, a7, a8, a9, a10, a11, a12, a13, a14, a15, a16, a17, a18, a19, a20, hz, hone, hdr, hdt, dInsn_len, List.append_nil, List.length_cons, List.length_nil, c3]
          exact DFin.sub (sub_over (Sub.refl _) hbad) (DFin.refl ⟨by rw [hrd], rfl⟩)
  · rintro j X hd ⟨rfl, hX2, hX3, hrd⟩
    have x2 : over H X r2 = some (.cells (dInsn (op0 0)) 53) := over_x hX2
    have x3 : over H X r3 = some (.cells [dI 5] 25) := over_x hX3
    simp only [DJump]
    simp (disch := omega) only [go_sem, Nat.reduceEqDiff, Nat.reduceAdd, Nat.reduceMul, Nat.reduceSub, Nat.reduceLeDiff, ↓reduceIte, reduceCtorEq, Int.reduceAdd, Int.reduceSub, Int.reduceMul, Int.reduceNeg, Int.reduceToNat, List.reduceReplicate, String.reduceEq, x2, x3, List.length_cons, List.length_nil, dInsn_len, hdt]
    exact DFin.sub (sub_over (Sub.refl _) hd) (DFin.refl ⟨by rw [hrd], rfl⟩)
end Go.Dl

-- Chapter 22: what head looks at.
namespace Go.Dl
open Go Go.Proofs
set_option maxRecDepth 10000

set_option maxHeartbeats 4000000 in
theorem reads_spec22 {G : Nat → DVal} (hG : GI G) (H : DHeap) (s : List UInt8) (x : Insn) (hs : s.length ≤ 1000000000) (hr : readI s = some x) : DCalls Tryd.prog G 68 [.str s, .agg (dInsn x)] H (DRet (.bool true) H) := by
  obtain ⟨hm, ht⟩ := readI_iff.1 hr
  have hop := mayI_at hm
  have hrd : readID s = (x, 0) := by rw [readID, hr]
  have htd : textID x = (s, 0) := by rw [textID, hm, ht]; rfl
  have hxx : decide (x = x) = true := decide_eq_true rfl
  have hdt : ∀ y, (dInsn y).take 7 = dInsn y := fun _ => rfl
  have hone : ∀ y, (dInsn y).all (fun d => d.one) = true := fun _ => rfl
  have hdr : ∀ y, (dInsn y).drop 7 = [] := fun _ => rfl
  refine dcalls_intro Tryd.func68 Tryd.call68 rfl (by kernel_rfl) ?_
  simp (disch := omega) only [go_sem, Nat.reduceEqDiff, Nat.reduceAdd, Nat.reduceMul, Nat.reduceSub, Nat.reduceLeDiff, ↓reduceIte, reduceCtorEq, Int.reduceAdd, Int.reduceSub, Int.reduceMul, Int.reduceNeg, Int.reduceToNat, List.reduceReplicate, String.reduceEq, DVal.cells]
  intro r1 hr1; dsimp only at hr1
  simp (disch := omega) only [go_sem, Nat.reduceEqDiff, Nat.reduceAdd, Nat.reduceMul, Nat.reduceSub, Nat.reduceLeDiff, ↓reduceIte, reduceCtorEq, Int.reduceAdd, Int.reduceSub, Int.reduceMul, Int.reduceNeg, Int.reduceToNat, List.reduceReplicate, String.reduceEq]
  refine (readI_spec hG _ s hs).mono ?_
  rintro _ H1 ⟨rfl, rfl⟩
  rw [hrd]
  simp (disch := omega) only [go_sem, Nat.reduceEqDiff, Nat.reduceAdd, Nat.reduceMul, Nat.reduceSub, Nat.reduceLeDiff, ↓reduceIte, reduceCtorEq, Int.reduceAdd, Int.reduceSub, Int.reduceMul, Int.reduceNeg, Int.reduceToNat, List.reduceReplicate, String.reduceEq, DVal.cells, hdt, hone, hdr, List.append_nil, dInsn_len]
  intro r2 hr2; dsimp only at hr2
  obtain ⟨m2, m1, hr2'⟩ := upd_eq_none.1 hr2
  simp (disch := omega) only [go_sem, Nat.reduceEqDiff, Nat.reduceAdd, Nat.reduceMul, Nat.reduceSub, Nat.reduceLeDiff, ↓reduceIte, reduceCtorEq, Int.reduceAdd, Int.reduceSub, Int.reduceMul, Int.reduceNeg, Int.reduceToNat, List.reduceReplicate, String.reduceEq, m1, m2, hdt, hone, hdr, List.append_nil, dInsn_len]
  refine (textI_spec hG _ x (by omega) (by omega)).mono ?_
  rintro _ H1 ⟨rfl, rfl⟩
  rw [htd]
  simp (disch := omega) only [go_sem, Nat.reduceEqDiff, Nat.reduceAdd, Nat.reduceMul, Nat.reduceSub, Nat.reduceLeDiff, ↓reduceIte, reduceCtorEq, Int.reduceAdd, Int.reduceSub, Int.reduceMul, Int.reduceNeg, Int.reduceToNat, List.reduceReplicate, String.reduceEq, m1, m2, hdt, hone, hdr, List.append_nil, dInsn_len, agg_eq agg_insn guard_insn (eq_insn x x), hxx]
  exact DFin.sub (show Sub H _ from (by repeat (first | exact Sub.refl _ | assumption | refine Sub.up ?_ (by assumption) _))) (DFin.refl ⟨rfl, rfl⟩)
set_option maxHeartbeats 4000000 in
theorem wrong_spec22 {G : Nat → DVal} (hG : GI G) (H : DHeap) (s : List UInt8) (hs : s.length ≤ 1000000000) (hr : readI s = none) : DCalls Tryd.prog G 69 [.str s] H (DRet (.bool true) H) := by
  have hrd : readID s = (op0 0, 5) := by rw [readID, hr]
  have hz : [DVal.int IntKind.u8 0, DVal.int IntKind.i64 0, DVal.int IntKind.i64 0, DVal.int IntKind.i64 0, DVal.int IntKind.i64 0, DVal.int IntKind.i64 0, DVal.int IntKind.i64 0] = dInsn (op0 0) := rfl
  have hxx : decide (op0 0 = op0 0) = true := decide_eq_true rfl
  have hdt : ∀ y, (dInsn y).take 7 = dInsn y := fun _ => rfl
  have hone : ∀ y, (dInsn y).all (fun d => d.one) = true := fun _ => rfl
  have hdr : ∀ y, (dInsn y).drop 7 = [] := fun _ => rfl
  refine dcalls_intro Tryd.func69 Tryd.call69 rfl (by kernel_rfl) ?_
  simp (disch := omega) only [go_sem, Nat.reduceEqDiff, Nat.reduceAdd, Nat.reduceMul, Nat.reduceSub, Nat.reduceLeDiff, ↓reduceIte, reduceCtorEq, Int.reduceAdd, Int.reduceSub, Int.reduceMul, Int.reduceNeg, Int.reduceToNat, List.reduceReplicate, String.reduceEq]
  refine (readI_spec hG _ s hs).mono ?_
  rintro _ H1 ⟨rfl, rfl⟩
  rw [hrd]
  simp (disch := omega) only [go_sem, Nat.reduceEqDiff, Nat.reduceAdd, Nat.reduceMul, Nat.reduceSub, Nat.reduceLeDiff, ↓reduceIte, reduceCtorEq, Int.reduceAdd, Int.reduceSub, Int.reduceMul, Int.reduceNeg, Int.reduceToNat, List.reduceReplicate, String.reduceEq, DVal.cells]
  intro r1 hr1; dsimp only at hr1
  simp (disch := omega) only [go_sem, Nat.reduceEqDiff, Nat.reduceAdd, Nat.reduceMul, Nat.reduceSub, Nat.reduceLeDiff, ↓reduceIte, reduceCtorEq, Int.reduceAdd, Int.reduceSub, Int.reduceMul, Int.reduceNeg, Int.reduceToNat, List.reduceReplicate, String.reduceEq, hz, hdt, hone, hdr, List.append_nil, dInsn_len, agg_eq agg_insn guard_insn (eq_insn (op0 0) (op0 0)), hxx]
  exact DFin.sub (show Sub H1 _ from (by repeat (first | exact Sub.refl _ | assumption | refine Sub.up ?_ (by assumption) _))) (DFin.refl ⟨rfl, rfl⟩)
end Go.Dl

-- Chapter 22: the facts that head looks at.
namespace Go.Dl
open Go Go.Proofs
set_option maxRecDepth 10000

theorem head1 : readI [108, 100, 32, 51, 32, 49, 55, 32, 48] = some ⟨3, 3, 0, 0, 17, 0, 0⟩ := by kernel_rfl
theorem head2 : readI [106, 122, 32, 50, 32, 49, 55] = some ⟨30, 0, 2, 0, 0, 0, 17⟩ := by kernel_rfl
theorem head3 : readI [108, 105, 32, 48, 32, 45, 49] = some ⟨1, 0, 0, 0, -1, 0, 0⟩ := by kernel_rfl
theorem head4 : readI [97, 108, 108, 111, 119] = some ⟨41, 0, 0, 0, 0, 0, 0⟩ := by kernel_rfl
theorem wrong1 : readI [108, 100, 32, 51, 32, 49, 55] = none := by kernel_rfl
theorem wrong2 : readI [108, 100, 32, 48, 51, 32, 49, 55, 32, 48] = none := by kernel_rfl
theorem wrong3 : readI [108, 105, 32, 49, 54, 32, 48] = none := by kernel_rfl
theorem wrong4 : readI [99, 104, 107, 32, 49, 32, 50, 32, 49] = none := by kernel_rfl
theorem wrong5 : readI [76, 68, 32, 51, 32, 49, 55, 32, 48] = none := by kernel_rfl
theorem wrong6 : readI [] = none := by kernel_rfl
theorem wrong7 : readI [97, 108, 108, 111, 119, 32] = none := by kernel_rfl
theorem head5 : putID ⟨1, 0, 0, 0, -1, 0, 0⟩ = (1 :: 0 :: 0 :: 0 :: 0 :: 0 :: 0 :: 0 :: 0 :: List.replicate 8 255, 0) := by kernel_rfl
theorem head6 : mayI ⟨1, 0, 0, 0, -1, 0, 0⟩ = true := by kernel_rfl
theorem head7 : bytesI ⟨1, 0, 0, 0, -1, 0, 0⟩ = [1, 0, 0, 0, 0, 0, 0, 0, 0, 255, 255, 255, 255, 255, 255, 255, 255] := by kernel_rfl
theorem head8 : getBD ([1, 0, 0, 0, 0, 0, 0, 0, 0, 255, 255, 255, 255, 255, 255, 255, 255] ++ [7]) = (⟨1, 0, 0, 0, -1, 0, 0⟩, 17, 0) := by kernel_rfl
theorem head9 : getBD [0] = (op0 0, 0, 220) := by kernel_rfl
theorem heada : mayI ⟨9, 0, 0, 0, 1, 0, 0⟩ = false := by kernel_rfl
end Go.Dl

-- Chapter 22: head.
namespace Go.Dl
open Go Go.Proofs
set_option maxRecDepth 10000

theorem put17 {G : Nat → DVal} (hG : GI G) (H : DHeap) : DCalls Tryd.prog G 31 [.agg (dInsn ⟨1, 0, 0, 0, -1, 0, 0⟩)] H (fun e H' => ∃ r, e = .ret (.tuple [.oslice 1 r 0 17 0, dI 0]) ∧ H r = none ∧ H' r = some (.cells (dBy [1, 0, 0, 0, 0, 0, 0, 0, 0, 255, 255, 255, 255, 255, 255, 255, 255]) 5) ∧ Sub H H') := by
  have h := put_own hG H ⟨1, 0, 0, 0, -1, 0, 0⟩ (by decide) (by decide) head6
  rw [head7] at h
  refine h.ghost ?_
  rintro _ H' ⟨v, rfl, hv⟩
  rcases hv with ⟨h, _⟩ | ⟨r, h1, h2, rfl, h3, h4⟩
  · cases h
  · refine ⟨_, .tuple [.oslice 1 r 0 17 0, dI 0], H', rfl, fun w hw => ⟨hw, fun _ h => h, fun x hx => ?_⟩, r, rfl, h1, h3, h4⟩
    simp only [Rel, RelL] at hx ⊢
    obtain ⟨xs, rfl, a, l, e, ⟨o', cap, e', k1, k2, k3, k4⟩, k5⟩ := hx
    exact ⟨xs, rfl, a, l, e, ⟨o', cap, e', Nat.zero_le _, k2, k3, k4⟩, k5⟩
theorem append_keep {H0 : DHeap} {e : TypeId} {size bytes r len lo n : Nat} {news : List DVal} {dst : Option Nat} {K : DK} {s : DS} {cs : List DVal} (h : lo < len) (hl : cs.length = len * size) (hb : (len + n) * bytes ≤ 35184372088832) (hs : Sub H0 s.heap) (h0 : H0 r = none) (hr : s.heap r = some (.cells cs e))
    (hK : ∀ r' H', H' r' = some (.cells (cs ++ news) e) → (∃ rest, H' r = some (.cells (cs ++ rest) e)) → Sub H0 H' → K ⟨updO s.env dst (.oslice size r' 0 (len + n) (len + n)), H'⟩) : dAppendO e size bytes r 0 len lo n news dst K s (some (.cells cs e)) := by
  refine dAppendO_keep h (by omega) hb fun r' hr' => ?_
  have ht : cs.take (len * size) = cs := List.take_of_length_le (by omega)
  rw [ht]
  refine hK r' _ (upd_same _ _ _) ?_ ?_
  · by_cases e1 : r = r'
    · subst e1; exact ⟨news, upd_same _ _ _⟩
    · exact ⟨[], by simp only [upd, if_neg e1]; rw [hr, List.append_nil]⟩
  · rcases hr' with rfl | hr'
    · exact hs.up h0 _
    · exact hs.new hr' _

set_option maxHeartbeats 8000000 in
theorem head22_spec {G : Nat → DVal} (hG : GI G) (H : DHeap) : DCalls Tryd.prog G 35 [] H (DRet (.bool true) H) := by
  refine dcalls_intro Tryd.func35 Tryd.call35 rfl (by kernel_rfl) ?_
  simp (disch := omega) only [go_sem, Nat.reduceEqDiff, Nat.reduceAdd, Nat.reduceMul, Nat.reduceSub, Nat.reduceLeDiff, ↓reduceIte, reduceCtorEq, Int.reduceAdd, Int.reduceSub, Int.reduceMul, Int.reduceNeg, Int.reduceToNat, List.reduceReplicate, String.reduceEq]
  refine (reads_spec22 hG _ _ ⟨3, 3, 0, 0, 17, 0, 0⟩ (by decide) head1).mono ?_
  rintro _ H1 ⟨rfl, rfl⟩
  simp (disch := omega) only [go_sem, Nat.reduceEqDiff, Nat.reduceAdd, Nat.reduceMul, Nat.reduceSub, Nat.reduceLeDiff, ↓reduceIte, reduceCtorEq, Int.reduceAdd, Int.reduceSub, Int.reduceMul, Int.reduceNeg, Int.reduceToNat, List.reduceReplicate, String.reduceEq]
  refine (reads_spec22 hG _ _ ⟨30, 0, 2, 0, 0, 0, 17⟩ (by decide) head2).mono ?_
  rintro _ H1 ⟨rfl, rfl⟩
  simp (disch := omega) only [go_sem, Nat.reduceEqDiff, Nat.reduceAdd, Nat.reduceMul, Nat.reduceSub, Nat.reduceLeDiff, ↓reduceIte, reduceCtorEq, Int.reduceAdd, Int.reduceSub, Int.reduceMul, Int.reduceNeg, Int.reduceToNat, List.reduceReplicate, String.reduceEq]
  refine (reads_spec22 hG _ _ ⟨1, 0, 0, 0, -1, 0, 0⟩ (by decide) head3).mono ?_
  rintro _ H1 ⟨rfl, rfl⟩
  simp (disch := omega) only [go_sem, Nat.reduceEqDiff, Nat.reduceAdd, Nat.reduceMul, Nat.reduceSub, Nat.reduceLeDiff, ↓reduceIte, reduceCtorEq, Int.reduceAdd, Int.reduceSub, Int.reduceMul, Int.reduceNeg, Int.reduceToNat, List.reduceReplicate, String.reduceEq]
  refine (reads_spec22 hG _ _ ⟨41, 0, 0, 0, 0, 0, 0⟩ (by decide) head4).mono ?_
  rintro _ H1 ⟨rfl, rfl⟩
  simp (disch := omega) only [go_sem, Nat.reduceEqDiff, Nat.reduceAdd, Nat.reduceMul, Nat.reduceSub, Nat.reduceLeDiff, ↓reduceIte, reduceCtorEq, Int.reduceAdd, Int.reduceSub, Int.reduceMul, Int.reduceNeg, Int.reduceToNat, List.reduceReplicate, String.reduceEq]
  refine (wrong_spec22 hG _ _ (by decide) wrong1).mono ?_
  rintro _ H1 ⟨rfl, rfl⟩
  simp (disch := omega) only [go_sem, Nat.reduceEqDiff, Nat.reduceAdd, Nat.reduceMul, Nat.reduceSub, Nat.reduceLeDiff, ↓reduceIte, reduceCtorEq, Int.reduceAdd, Int.reduceSub, Int.reduceMul, Int.reduceNeg, Int.reduceToNat, List.reduceReplicate, String.reduceEq]
  refine (wrong_spec22 hG _ _ (by decide) wrong2).mono ?_
  rintro _ H1 ⟨rfl, rfl⟩
  simp (disch := omega) only [go_sem, Nat.reduceEqDiff, Nat.reduceAdd, Nat.reduceMul, Nat.reduceSub, Nat.reduceLeDiff, ↓reduceIte, reduceCtorEq, Int.reduceAdd, Int.reduceSub, Int.reduceMul, Int.reduceNeg, Int.reduceToNat, List.reduceReplicate, String.reduceEq]
  refine (wrong_spec22 hG _ _ (by decide) wrong3).mono ?_
  rintro _ H1 ⟨rfl, rfl⟩
  simp (disch := omega) only [go_sem, Nat.reduceEqDiff, Nat.reduceAdd, Nat.reduceMul, Nat.reduceSub, Nat.reduceLeDiff, ↓reduceIte, reduceCtorEq, Int.reduceAdd, Int.reduceSub, Int.reduceMul, Int.reduceNeg, Int.reduceToNat, List.reduceReplicate, String.reduceEq]
  refine (wrong_spec22 hG _ _ (by decide) wrong4).mono ?_
  rintro _ H1 ⟨rfl, rfl⟩
  simp (disch := omega) only [go_sem, Nat.reduceEqDiff, Nat.reduceAdd, Nat.reduceMul, Nat.reduceSub, Nat.reduceLeDiff, ↓reduceIte, reduceCtorEq, Int.reduceAdd, Int.reduceSub, Int.reduceMul, Int.reduceNeg, Int.reduceToNat, List.reduceReplicate, String.reduceEq]
  refine (wrong_spec22 hG _ _ (by decide) wrong5).mono ?_
  rintro _ H1 ⟨rfl, rfl⟩
  simp (disch := omega) only [go_sem, Nat.reduceEqDiff, Nat.reduceAdd, Nat.reduceMul, Nat.reduceSub, Nat.reduceLeDiff, ↓reduceIte, reduceCtorEq, Int.reduceAdd, Int.reduceSub, Int.reduceMul, Int.reduceNeg, Int.reduceToNat, List.reduceReplicate, String.reduceEq]
  refine (wrong_spec22 hG _ _ (by decide) wrong6).mono ?_
  rintro _ H1 ⟨rfl, rfl⟩
  simp (disch := omega) only [go_sem, Nat.reduceEqDiff, Nat.reduceAdd, Nat.reduceMul, Nat.reduceSub, Nat.reduceLeDiff, ↓reduceIte, reduceCtorEq, Int.reduceAdd, Int.reduceSub, Int.reduceMul, Int.reduceNeg, Int.reduceToNat, List.reduceReplicate, String.reduceEq]
  refine (wrong_spec22 hG _ _ (by decide) wrong7).mono ?_
  rintro _ H1 ⟨rfl, rfl⟩
  simp (disch := omega) only [go_sem, Nat.reduceEqDiff, Nat.reduceAdd, Nat.reduceMul, Nat.reduceSub, Nat.reduceLeDiff, ↓reduceIte, reduceCtorEq, Int.reduceAdd, Int.reduceSub, Int.reduceMul, Int.reduceNeg, Int.reduceToNat, List.reduceReplicate, String.reduceEq]
  refine (put17 hG _).mono ?_
  rintro _ H2 ⟨r, rfl, hr0, hr2, hs2⟩
  simp (disch := omega) only [go_sem, Nat.reduceEqDiff, Nat.reduceAdd, Nat.reduceMul, Nat.reduceSub, Nat.reduceLeDiff, ↓reduceIte, reduceCtorEq, Int.reduceAdd, Int.reduceSub, Int.reduceMul, Int.reduceNeg, Int.reduceToNat, List.reduceReplicate, String.reduceEq]
  intro r1 hr1; dsimp only at hr1
  have hne : r ≠ r1 := fun e => by rw [e, hr1] at hr2; cases hr2
  simp (disch := omega) only [go_sem, Nat.reduceEqDiff, Nat.reduceAdd, Nat.reduceMul, Nat.reduceSub, Nat.reduceLeDiff, ↓reduceIte, reduceCtorEq, Int.reduceAdd, Int.reduceSub, Int.reduceMul, Int.reduceNeg, Int.reduceToNat, List.reduceReplicate, String.reduceEq, hne, hr2]
  refine append_keep (H0 := H1) (by decide) rfl (by decide) (hs2.new hr1 _) hr0 (by simp only [upd, if_neg hne]; exact hr2) fun r2 H4 k2 ⟨rest, k1⟩ hs4 => ?_
  simp (disch := omega) only [go_sem, Nat.reduceEqDiff, Nat.reduceAdd, Nat.reduceMul, Nat.reduceSub, Nat.reduceLeDiff, ↓reduceIte, reduceCtorEq, Int.reduceAdd, Int.reduceSub, Int.reduceMul, Int.reduceNeg, Int.reduceToNat, List.reduceReplicate, String.reduceEq, hne, hr2]
  refine ((get_spec hG h0 ([1, 0, 0, 0, 0, 0, 0, 0, 0, 255, 255, 255, 255, 255, 255, 255, 255] ++ [7]) (by decide)).lent (args := [.oslice 1 r2 0 18 18]) (by
    have := lendO (r := r2) (off := 0) (n := 18) (lo := 18) k2 []
    exact this) rfl).mono ?_
  rintro _ H5 ⟨rfl, rfl⟩
  rw [head8]
  have hz : [DVal.int IntKind.u8 0, DVal.int IntKind.i64 0, DVal.int IntKind.i64 0, DVal.int IntKind.i64 0, DVal.int IntKind.i64 0, DVal.int IntKind.i64 0, DVal.int IntKind.i64 0] = dInsn (op0 0) := rfl
  have hdt : ∀ y, (dInsn y).take 7 = dInsn y := fun _ => rfl
  have hone : ∀ y, (dInsn y).all (fun d => d.one) = true := fun _ => rfl
  have hdr : ∀ y, (dInsn y).drop 7 = [] := fun _ => rfl
  simp (disch := omega) only [go_sem, Nat.reduceEqDiff, Nat.reduceAdd, Nat.reduceMul, Nat.reduceSub, Nat.reduceLeDiff, ↓reduceIte, reduceCtorEq, Int.reduceAdd, Int.reduceSub, Int.reduceMul, Int.reduceNeg, Int.reduceToNat, List.reduceReplicate, String.reduceEq]
  rw [hz]
  intro r5 hr5; dsimp only at hr5
  have n1 : r ≠ r5 := fun e => by rw [e, hr5] at k1; cases k1
  simp (disch := omega) only [go_sem, Nat.reduceEqDiff, Nat.reduceAdd, Nat.reduceMul, Nat.reduceSub, Nat.reduceLeDiff, ↓reduceIte, reduceCtorEq, Int.reduceAdd, Int.reduceSub, Int.reduceMul, Int.reduceNeg, Int.reduceToNat, List.reduceReplicate, String.reduceEq, hone, hdr, List.append_nil, dInsn_len]
  intro r6 hr6; dsimp only at hr6
  obtain ⟨n3, n2, hr6'⟩ := upd_eq_none.1 hr6
  have n4 : r ≠ r6 := fun e => by rw [e, hr6'] at k1; cases k1
  simp (disch := omega) only [go_sem, Nat.reduceEqDiff, Nat.reduceAdd, Nat.reduceMul, Nat.reduceSub, Nat.reduceLeDiff, ↓reduceIte, reduceCtorEq, Int.reduceAdd, Int.reduceSub, Int.reduceMul, Int.reduceNeg, Int.reduceToNat, List.reduceReplicate, String.reduceEq, n1, n2, n3, n4, k1]
  refine ((get_spec hG h0 [0] (by decide)).lent (args := [.oslice 1 r6 0 1 1]) (by
    have := lendO (r := r6) (off := 0) (n := 1) (lo := 1) (upd_same (upd H5 r5 (some (DObj.cells (dInsn ⟨1, 0, 0, 0, -1, 0, 0⟩) 53))) r6 (some (.cells [.int .u8 0] 5))) []
    exact this) rfl).mono ?_
  rintro _ H6 ⟨rfl, rfl⟩
  rw [head9]
  simp (disch := omega) only [go_sem, Nat.reduceEqDiff, Nat.reduceAdd, Nat.reduceMul, Nat.reduceSub, Nat.reduceLeDiff, ↓reduceIte, reduceCtorEq, Int.reduceAdd, Int.reduceSub, Int.reduceMul, Int.reduceNeg, Int.reduceToNat, List.reduceReplicate, String.reduceEq]
  rw [hz]
  intro r8 hr8; dsimp only at hr8
  obtain ⟨n6, n5, hr8a⟩ := upd_eq_none.1 hr8
  obtain ⟨n8, n7, hr8'⟩ := upd_eq_none.1 hr8a
  have n9 : r ≠ r8 := fun e => by rw [e, hr8'] at k1; cases k1
  have hk0 : (dBy [1, 0, 0, 0, 0, 0, 0, 0, 0, 255, 255, 255, 255, 255, 255, 255, 255] ++ rest)[0]? = some (.int .u8 1) := rfl
  have hk16 : (dBy [1, 0, 0, 0, 0, 0, 0, 0, 0, 255, 255, 255, 255, 255, 255, 255, 255] ++ rest)[16]? = some (.int .u8 255) := rfl
  have hx4 : ∀ y, (dInsn y)[4]? = some (dI y.n) := fun _ => rfl
  simp (disch := omega) only [go_sem, Nat.reduceEqDiff, Nat.reduceAdd, Nat.reduceMul, Nat.reduceSub, Nat.reduceLeDiff, ↓reduceIte, reduceCtorEq, Int.reduceAdd, Int.reduceSub, Int.reduceMul, Int.reduceNeg, Int.reduceToNat, List.reduceReplicate, String.reduceEq, hone, hdr, List.append_nil, dInsn_len, n1, n2, n3, n4, n5, n6, n7, n8, n9, k1, hk0, hk16, hx4]
  refine (runtime_spec G _ 50 (by decide) (by decide)).mono ?_
  rintro _ H7 ⟨rfl, rfl⟩
  rw [show (decide ((42 : Int) ≤ 50) && decide ((50 : Int) ≤ 57)) = true from rfl]
  simp (disch := omega) only [go_sem, Nat.reduceEqDiff, Nat.reduceAdd, Nat.reduceMul, Nat.reduceSub, Nat.reduceLeDiff, ↓reduceIte, reduceCtorEq, Int.reduceAdd, Int.reduceSub, Int.reduceMul, Int.reduceNeg, Int.reduceToNat, List.reduceReplicate, String.reduceEq]
  refine (runtime_spec G _ 41 (by decide) (by decide)).mono ?_
  rintro _ H7 ⟨rfl, rfl⟩
  rw [show (decide ((42 : Int) ≤ 41) && decide ((41 : Int) ≤ 57)) = false from rfl]
  simp (disch := omega) only [go_sem, Nat.reduceEqDiff, Nat.reduceAdd, Nat.reduceMul, Nat.reduceSub, Nat.reduceLeDiff, ↓reduceIte, reduceCtorEq, Int.reduceAdd, Int.reduceSub, Int.reduceMul, Int.reduceNeg, Int.reduceToNat, List.reduceReplicate, String.reduceEq]
  refine (raises_spec 27).mono ?_
  rintro _ H7 ⟨rfl, rfl⟩
  rw [show raisesC 27 = true from rfl]
  simp (disch := omega) only [go_sem, Nat.reduceEqDiff, Nat.reduceAdd, Nat.reduceMul, Nat.reduceSub, Nat.reduceLeDiff, ↓reduceIte, reduceCtorEq, Int.reduceAdd, Int.reduceSub, Int.reduceMul, Int.reduceNeg, Int.reduceToNat, List.reduceReplicate, String.reduceEq]
  refine (raises_spec 9).mono ?_
  rintro _ H7 ⟨rfl, rfl⟩
  rw [show raisesC 9 = false from rfl]
  simp (disch := omega) only [go_sem, Nat.reduceEqDiff, Nat.reduceAdd, Nat.reduceMul, Nat.reduceSub, Nat.reduceLeDiff, ↓reduceIte, reduceCtorEq, Int.reduceAdd, Int.reduceSub, Int.reduceMul, Int.reduceNeg, Int.reduceToNat, List.reduceReplicate, String.reduceEq]
  refine (mayI_spec hG _ ⟨9, 0, 0, 0, 1, 0, 0⟩ (by decide) (by decide)).mono ?_
  rintro _ H7 ⟨rfl, rfl⟩
  rw [heada]
  simp (disch := omega) only [go_sem, Nat.reduceEqDiff, Nat.reduceAdd, Nat.reduceMul, Nat.reduceSub, Nat.reduceLeDiff, ↓reduceIte, reduceCtorEq, Int.reduceAdd, Int.reduceSub, Int.reduceMul, Int.reduceNeg, Int.reduceToNat, List.reduceReplicate, String.reduceEq]
  have hs5 : Sub H1 (upd (upd (upd H5 r5 (some (DObj.cells (dInsn ⟨1, 0, 0, 0, -1, 0, 0⟩) 53))) r6 (some (.cells [.int .u8 0] 5))) r8 (some (DObj.cells (dInsn (op0 0)) 53))) := ((hs4.new hr5 _).new hr6 _).new hr8 _
  exact DFin.sub hs5 (DFin.refl ⟨rfl, rfl⟩)
end Go.Dl

-- Chapter 22: InsnMay, InsnOps, InsnReads, InsnGets at the data level.
namespace Go.Dl
open Go Go.Proofs
set_option maxRecDepth 10000

theorem strOf_dBy : ∀ l : List UInt8, strOf (dBy l) = some l
  | [] => rfl
  | b :: l => by
    rw [show dBy (b :: l) = .int .u8 b.toNat :: dBy l from rfl, strOf, strOf_dBy l]
    simp
theorem take_dBy (l : List UInt8) : (dBy l).take l.length = dBy l := List.take_of_length_le (by rw [dBy_length]; exact Nat.le_refl _)
theorem insn_t7 (y : Insn) : (dInsn y).take 7 = dInsn y := rfl
theorem insn_d7 (y : Insn) : (dInsn y).drop 7 = [] := rfl
theorem insn_one (y : Insn) : (dInsn y).all (fun d => d.one) = true := rfl

set_option maxHeartbeats 4000000 in
theorem insnMay_spec {G : Nat → DVal} (hG : GI G) (H : DHeap) (x : Insn) (p0 : 0 ≤ x.op) (p1 : x.op < 256) : DCalls Tryd.prog G 8 [.agg (dInsn x)] H (DRet (.bool true) H) := by
  refine dcalls_intro Tryd.func8 Tryd.call8 rfl (by kernel_rfl) ?_
  simp (disch := omega) only [go_sem, Nat.reduceEqDiff, Nat.reduceAdd, Nat.reduceMul, Nat.reduceSub, Nat.reduceLeDiff, ↓reduceIte, reduceCtorEq, Int.reduceAdd, Int.reduceSub, Int.reduceMul, Int.reduceNeg, Int.reduceToNat, List.reduceReplicate, String.reduceEq, DVal.cells]
  intro r hr; dsimp only at hr
  simp (disch := omega) only [go_sem, Nat.reduceEqDiff, Nat.reduceAdd, Nat.reduceMul, Nat.reduceSub, Nat.reduceLeDiff, ↓reduceIte, reduceCtorEq, Int.reduceAdd, Int.reduceSub, Int.reduceMul, Int.reduceNeg, Int.reduceToNat, List.reduceReplicate, String.reduceEq, dInsn_len, insn_t7]
  refine (textI_spec hG _ x p0 p1).mono ?_
  rintro _ H1 ⟨rfl, rfl⟩
  simp (disch := omega) only [go_sem, Nat.reduceEqDiff, Nat.reduceAdd, Nat.reduceMul, Nat.reduceSub, Nat.reduceLeDiff, ↓reduceIte, reduceCtorEq, Int.reduceAdd, Int.reduceSub, Int.reduceMul, Int.reduceNeg, Int.reduceToNat, List.reduceReplicate, String.reduceEq, dInsn_len, insn_t7]
  refine (rtextI_spec G _ x p0 p1).mono ?_
  rintro _ H1 ⟨rfl, rfl⟩
  simp (disch := omega) only [go_sem, Nat.reduceEqDiff, Nat.reduceAdd, Nat.reduceMul, Nat.reduceSub, Nat.reduceLeDiff, ↓reduceIte, reduceCtorEq, Int.reduceAdd, Int.reduceSub, Int.reduceMul, Int.reduceNeg, Int.reduceToNat, List.reduceReplicate, String.reduceEq, dInsn_len, insn_t7]
  refine (put_spec hG _ x p0 p1).mono ?_
  rintro _ H1 ⟨rfl, rfl⟩
  simp (disch := omega) only [go_sem, Nat.reduceEqDiff, Nat.reduceAdd, Nat.reduceMul, Nat.reduceSub, Nat.reduceLeDiff, ↓reduceIte, reduceCtorEq, Int.reduceAdd, Int.reduceSub, Int.reduceMul, Int.reduceNeg, Int.reduceToNat, List.reduceReplicate, String.reduceEq, dInsn_len, insn_t7]
  refine (rput_spec G _ x p0 p1).mono ?_
  rintro _ H1 ⟨rfl, rfl⟩
  simp (disch := omega) only [go_sem, Nat.reduceEqDiff, Nat.reduceAdd, Nat.reduceMul, Nat.reduceSub, Nat.reduceLeDiff, ↓reduceIte, reduceCtorEq, Int.reduceAdd, Int.reduceSub, Int.reduceMul, Int.reduceNeg, Int.reduceToNat, List.reduceReplicate, String.reduceEq, dInsn_len, insn_t7]
  refine dwp_draws (by kernel_rfl) (.take 0 (.take 2 (.go 1 [2] (.go 3 [0] (.take 4 (.take 5 (.take 6 (.take 7 (.take 8 (.take 9 (.take 10 (.take 11 (.take 12 (.take 13 (.take 14 (.take 15 (.take 16 (.take 17 (.take 18 (.take 19 (.take 20 (.take 21 (.take 22 (.take 23 (.take 24 (.take 25 (.take 26 (.take 27 (.go 28 [19, 17, 2, 0] (.take 29 (.take 30 .done))))))))))))))))))))))))))))))) (by kernel_rfl) ?_
  simp (disch := omega) only [go_sem, Nat.reduceEqDiff, Nat.reduceAdd, Nat.reduceMul, Nat.reduceSub, Nat.reduceLeDiff, ↓reduceIte, reduceCtorEq, Int.reduceAdd, Int.reduceSub, Int.reduceMul, Int.reduceNeg, Int.reduceToNat, List.reduceReplicate, String.reduceEq, dInsn_len, insn_t7]
  refine (mayI_spec hG _ x p0 p1).mono ?_
  rintro _ H1 ⟨rfl, rfl⟩
  simp (disch := omega) only [go_sem, Nat.reduceEqDiff, Nat.reduceAdd, Nat.reduceMul, Nat.reduceSub, Nat.reduceLeDiff, ↓reduceIte, reduceCtorEq, Int.reduceAdd, Int.reduceSub, Int.reduceMul, Int.reduceNeg, Int.reduceToNat, List.reduceReplicate, String.reduceEq, dInsn_len, insn_t7]
  refine (rmayI_spec G _ x p0 p1).mono ?_
  rintro _ H1 ⟨rfl, rfl⟩
  simp (disch := omega) only [go_sem, Nat.reduceEqDiff, Nat.reduceAdd, Nat.reduceMul, Nat.reduceSub, Nat.reduceLeDiff, ↓reduceIte, reduceCtorEq, Int.reduceAdd, Int.reduceSub, Int.reduceMul, Int.reduceNeg, Int.reduceToNat, List.reduceReplicate, String.reduceEq, dInsn_len, insn_t7, take_dBy, dBy_length, Nat.le_refl, strOf_dBy, Option.bind_some]
  refine (head22_spec hG _).mono ?_
  rintro _ H1 ⟨rfl, rfl⟩
  simp (disch := omega) only [go_sem, Nat.reduceEqDiff, Nat.reduceAdd, Nat.reduceMul, Nat.reduceSub, Nat.reduceLeDiff, ↓reduceIte, reduceCtorEq, Int.reduceAdd, Int.reduceSub, Int.reduceMul, Int.reduceNeg, Int.reduceToNat, List.reduceReplicate, String.reduceEq]
  exact DFin.dropA r hr (DFin.refl ⟨rfl, rfl⟩)

theorem rrAt_name (o : Int) : (rrAt o).2.1 = (rowAt o).1 := by
  rw [rowAt_name]
  cases h : isO o with
  | true => rw [(rrAt_op h).2]; rfl
  | false => rw [rrAt_out h]; rfl
theorem dRRow_t3 (p : Int × List UInt8 × List (Int × Int × Int)) : (dRRow p).take 3 = dRRow p := rfl
theorem dRRow_d3 (p : Int × List UInt8 × List (Int × Int × Int)) : (dRRow p).drop 3 = [] := rfl
theorem dRRow_one (p : Int × List UInt8 × List (Int × Int × Int)) : (dRRow p).all (fun d => d.one) = true := rfl

set_option maxHeartbeats 4000000 in
theorem insnOps_spec {G : Nat → DVal} (hG : GI G) (H : DHeap) (o : Int) (h0 : 0 ≤ o) (h1 : o < 256) : DCalls Tryd.prog G 9 [.int .u8 o] H (DRet (.bool true) H) := by
  refine dcalls_intro Tryd.func9 Tryd.call9 rfl (by kernel_rfl) ?_
  simp (disch := omega) only [go_sem, Nat.reduceEqDiff, Nat.reduceAdd, Nat.reduceMul, Nat.reduceSub, Nat.reduceLeDiff, ↓reduceIte, reduceCtorEq, Int.reduceAdd, Int.reduceSub, Int.reduceMul, Int.reduceNeg, Int.reduceToNat, List.reduceReplicate, String.reduceEq]
  refine (name_spec hG.rows _ o h0 h1).mono ?_
  rintro _ H1 ⟨rfl, rfl⟩
  simp (disch := omega) only [go_sem, Nat.reduceEqDiff, Nat.reduceAdd, Nat.reduceMul, Nat.reduceSub, Nat.reduceLeDiff, ↓reduceIte, reduceCtorEq, Int.reduceAdd, Int.reduceSub, Int.reduceMul, Int.reduceNeg, Int.reduceToNat, List.reduceReplicate, String.reduceEq]
  refine (rfind_spec G _ o h0 h1).mono ?_
  rintro _ H1 ⟨rfl, rfl⟩
  simp (disch := omega) only [go_sem, Nat.reduceEqDiff, Nat.reduceAdd, Nat.reduceMul, Nat.reduceSub, Nat.reduceLeDiff, ↓reduceIte, reduceCtorEq, Int.reduceAdd, Int.reduceSub, Int.reduceMul, Int.reduceNeg, Int.reduceToNat, List.reduceReplicate, String.reduceEq, dRRow_length, dRRow_t3, dRRow_d3, dRRow_one, List.append_nil, DVal.cells]
  intro r hr; dsimp only at hr
  simp (disch := omega) only [go_sem, Nat.reduceEqDiff, Nat.reduceAdd, Nat.reduceMul, Nat.reduceSub, Nat.reduceLeDiff, ↓reduceIte, reduceCtorEq, Int.reduceAdd, Int.reduceSub, Int.reduceMul, Int.reduceNeg, Int.reduceToNat, List.reduceReplicate, String.reduceEq, dRRow_length, dRRow_t3, dRRow_d3, dRRow_one, List.append_nil, DVal.cells]
  refine (runtime_spec G _ o h0 h1).mono ?_
  rintro _ H1 ⟨rfl, rfl⟩
  simp (disch := omega) only [go_sem, Nat.reduceEqDiff, Nat.reduceAdd, Nat.reduceMul, Nat.reduceSub, Nat.reduceLeDiff, ↓reduceIte, reduceCtorEq, Int.reduceAdd, Int.reduceSub, Int.reduceMul, Int.reduceNeg, Int.reduceToNat, List.reduceReplicate, String.reduceEq]
  refine (rruntime_spec G _ o h0 h1).mono ?_
  rintro _ H1 ⟨rfl, rfl⟩
  simp (disch := omega) only [go_sem, Nat.reduceEqDiff, Nat.reduceAdd, Nat.reduceMul, Nat.reduceSub, Nat.reduceLeDiff, ↓reduceIte, reduceCtorEq, Int.reduceAdd, Int.reduceSub, Int.reduceMul, Int.reduceNeg, Int.reduceToNat, List.reduceReplicate, String.reduceEq]
  refine (raises_spec o).mono ?_
  rintro _ H1 ⟨rfl, rfl⟩
  simp (disch := omega) only [go_sem, Nat.reduceEqDiff, Nat.reduceAdd, Nat.reduceMul, Nat.reduceSub, Nat.reduceLeDiff, ↓reduceIte, reduceCtorEq, Int.reduceAdd, Int.reduceSub, Int.reduceMul, Int.reduceNeg, Int.reduceToNat, List.reduceReplicate, String.reduceEq]
  refine (rraises_spec o).mono ?_
  rintro _ H1 ⟨rfl, rfl⟩
  simp (disch := omega) only [go_sem, Nat.reduceEqDiff, Nat.reduceAdd, Nat.reduceMul, Nat.reduceSub, Nat.reduceLeDiff, ↓reduceIte, reduceCtorEq, Int.reduceAdd, Int.reduceSub, Int.reduceMul, Int.reduceNeg, Int.reduceToNat, List.reduceReplicate, String.reduceEq, dRRow_at, rrAt_name]
  refine (head22_spec hG _).mono ?_
  rintro _ H1 ⟨rfl, rfl⟩
  simp (disch := omega) only [go_sem, Nat.reduceEqDiff, Nat.reduceAdd, Nat.reduceMul, Nat.reduceSub, Nat.reduceLeDiff, ↓reduceIte, reduceCtorEq, Int.reduceAdd, Int.reduceSub, Int.reduceMul, Int.reduceNeg, Int.reduceToNat, List.reduceReplicate, String.reduceEq]
  exact DFin.dropA r hr (DFin.refl ⟨rfl, rfl⟩)

set_option maxHeartbeats 4000000 in
theorem insnReads_spec {G : Nat → DVal} (hG : GI G) (H : DHeap) (s : List UInt8) (hs : s.length ≤ 9223372036854775807) : DCalls Tryd.prog G 10 [.str s] H (DRet (.bool true) H) := by
  have hz : [DVal.int IntKind.u8 0, DVal.int IntKind.i64 0, DVal.int IntKind.i64 0, DVal.int IntKind.i64 0, DVal.int IntKind.i64 0, DVal.int IntKind.i64 0, DVal.int IntKind.i64 0] = dInsn (op0 0) := rfl
  refine dcalls_intro Tryd.func10 Tryd.call10 rfl (by kernel_rfl) ?_
  by_cases cl : 300 < s.length
  · have cl' : (300 : Int) < (s.length : Int) := by omega
    simp (disch := omega) only [go_sem, Nat.reduceEqDiff, Nat.reduceAdd, Nat.reduceMul, Nat.reduceSub, Nat.reduceLeDiff, ↓reduceIte, reduceCtorEq, Int.reduceAdd, Int.reduceSub, Int.reduceMul, Int.reduceNeg, Int.reduceToNat, List.reduceReplicate, String.reduceEq, cl']
    refine (head22_spec hG _).mono ?_
    rintro _ H1 ⟨rfl, rfl⟩
    simp (disch := omega) only [go_sem, Nat.reduceEqDiff, Nat.reduceAdd, Nat.reduceMul, Nat.reduceSub, Nat.reduceLeDiff, ↓reduceIte, reduceCtorEq, Int.reduceAdd, Int.reduceSub, Int.reduceMul, Int.reduceNeg, Int.reduceToNat, List.reduceReplicate, String.reduceEq]
    exact DFin.refl ⟨rfl, rfl⟩
  have cl' : ¬ (300 : Int) < (s.length : Int) := by omega
  simp (disch := omega) only [go_sem, Nat.reduceEqDiff, Nat.reduceAdd, Nat.reduceMul, Nat.reduceSub, Nat.reduceLeDiff, ↓reduceIte, reduceCtorEq, Int.reduceAdd, Int.reduceSub, Int.reduceMul, Int.reduceNeg, Int.reduceToNat, List.reduceReplicate, String.reduceEq, cl']
  refine (readI_spec hG _ s (by omega)).mono ?_
  rintro _ H1 ⟨rfl, rfl⟩
  simp (disch := omega) only [go_sem, Nat.reduceEqDiff, Nat.reduceAdd, Nat.reduceMul, Nat.reduceSub, Nat.reduceLeDiff, ↓reduceIte, reduceCtorEq, Int.reduceAdd, Int.reduceSub, Int.reduceMul, Int.reduceNeg, Int.reduceToNat, List.reduceReplicate, String.reduceEq, DVal.cells]
  rw [hz]
  intro r1 hr1; dsimp only at hr1
  simp (disch := omega) only [go_sem, Nat.reduceEqDiff, Nat.reduceAdd, Nat.reduceMul, Nat.reduceSub, Nat.reduceLeDiff, ↓reduceIte, reduceCtorEq, Int.reduceAdd, Int.reduceSub, Int.reduceMul, Int.reduceNeg, Int.reduceToNat, List.reduceReplicate, String.reduceEq, insn_t7, insn_d7, insn_one, List.append_nil, dInsn_len]
  refine (rreadI_spec G _ s (by omega)).mono ?_
  rintro _ H1 ⟨rfl, rfl⟩
  simp (disch := omega) only [go_sem, Nat.reduceEqDiff, Nat.reduceAdd, Nat.reduceMul, Nat.reduceSub, Nat.reduceLeDiff, ↓reduceIte, reduceCtorEq, Int.reduceAdd, Int.reduceSub, Int.reduceMul, Int.reduceNeg, Int.reduceToNat, List.reduceReplicate, String.reduceEq, DVal.cells]
  rw [hz]
  intro r2 hr2; dsimp only at hr2
  obtain ⟨m2, m1, hr2'⟩ := upd_eq_none.1 hr2
  simp (disch := omega) only [go_sem, Nat.reduceEqDiff, Nat.reduceAdd, Nat.reduceMul, Nat.reduceSub, Nat.reduceLeDiff, ↓reduceIte, reduceCtorEq, Int.reduceAdd, Int.reduceSub, Int.reduceMul, Int.reduceNeg, Int.reduceToNat, List.reduceReplicate, String.reduceEq, m1, m2, insn_t7, insn_d7, insn_one, List.append_nil, dInsn_len]
  refine (named_spec hG.rows _ s).mono ?_
  rintro _ H1 ⟨rfl, rfl⟩
  simp (disch := omega) only [go_sem, Nat.reduceEqDiff, Nat.reduceAdd, Nat.reduceMul, Nat.reduceSub, Nat.reduceLeDiff, ↓reduceIte, reduceCtorEq, Int.reduceAdd, Int.reduceSub, Int.reduceMul, Int.reduceNeg, Int.reduceToNat, List.reduceReplicate, String.reduceEq]
  refine (rnamed_spec G _ s).mono ?_
  rintro _ H1 ⟨rfl, rfl⟩
  simp (disch := omega) only [go_sem, Nat.reduceEqDiff, Nat.reduceAdd, Nat.reduceMul, Nat.reduceSub, Nat.reduceLeDiff, ↓reduceIte, reduceCtorEq, Int.reduceAdd, Int.reduceSub, Int.reduceMul, Int.reduceNeg, Int.reduceToNat, List.reduceReplicate, String.reduceEq, m1, m2, insn_t7, insn_d7, insn_one, List.append_nil, dInsn_len, agg_eq agg_insn guard_insn (eq_insn (readID s).1 (readID s).1), decide_true]
  refine (head22_spec hG _).mono ?_
  rintro _ H1 ⟨rfl, rfl⟩
  simp (disch := omega) only [go_sem, Nat.reduceEqDiff, Nat.reduceAdd, Nat.reduceMul, Nat.reduceSub, Nat.reduceLeDiff, ↓reduceIte, reduceCtorEq, Int.reduceAdd, Int.reduceSub, Int.reduceMul, Int.reduceNeg, Int.reduceToNat, List.reduceReplicate, String.reduceEq]
  exact DFin.sub (show Sub H1 _ from (by repeat (first | exact Sub.refl _ | assumption | refine Sub.up ?_ (by assumption) _))) (DFin.refl ⟨rfl, rfl⟩)
end Go.Dl

-- Chapter 22: InsnGets, InsnBack, InsnNames at the data level.
namespace Go.Dl
open Go Go.Proofs
set_option maxRecDepth 10000

theorem OwnJ.strSrcB {H H' : DHeap} {l : List UInt8} {v : DVal} (h : OwnJ H 5 1 l.length (dBy l) v H') : strSrc H' v = some (dBy l) := by
  rcases h with ⟨h1, h2, rfl, _⟩ | ⟨r, h1, h2, rfl, h3, _⟩
  · rw [h2]; rfl
  · simp only [strSrc, h3, strSrcO, List.drop_zero]
    rw [if_pos (by omega), List.take_of_length_le (by omega)]
theorem ownJ_empty {H : DHeap} {r : Nat} (hr : H r = none) : OwnJ H 5 1 0 (dBy []) (.oslice 1 r 0 0 0) (upd H r (some (.cells [] 5))) :=
  .inr ⟨r, hr, rfl, rfl, upd_same _ _ _, (Sub.refl H).up hr _⟩
theorem OwnJ.appendB {H H' : DHeap} {l m : List UInt8} {v : DVal} {dst : Option Nat} {K : DK} {env : Nat → DVal} (hv : OwnJ H 5 1 l.length (dBy l) v H') (hb : l.length + m.length ≤ 35184372088832)
    (hK : ∀ v' H2, OwnJ H 5 1 (l ++ m).length (dBy (l ++ m)) v' H2 → Sub H H2 → K ⟨updO env dst v', H2⟩) : dAppendTo 5 1 1 m.length (dBy m) dst v K ⟨env, H'⟩ :=
  OwnJ.append hv (by rw [dBy_length, Nat.mul_one]) (by omega) fun v' H2 h => hK v' H2 (by rw [List.length_append, dBy_append]; exact h) h.sub

set_option maxHeartbeats 4000000 in
theorem insnGets_spec {G : Nat → DVal} (hG : GI G) (H : DHeap) (b : List UInt8) (hb : b.length ≤ 35184372088832) : DCalls Tryd.prog G 11 [.vslice (dBy b) b.length] H (DRet (.bool true) H) := by
  have hz : [DVal.int IntKind.u8 0, DVal.int IntKind.i64 0, DVal.int IntKind.i64 0, DVal.int IntKind.i64 0, DVal.int IntKind.i64 0, DVal.int IntKind.i64 0, DVal.int IntKind.i64 0] = dInsn (op0 0) := rfl
  refine dcalls_intro Tryd.func11 Tryd.call11 rfl (by kernel_rfl) ?_
  simp (disch := omega) only [go_sem, Nat.reduceEqDiff, Nat.reduceAdd, Nat.reduceMul, Nat.reduceSub, Nat.reduceLeDiff, ↓reduceIte, reduceCtorEq, Int.reduceAdd, Int.reduceSub, Int.reduceMul, Int.reduceNeg, Int.reduceToNat, List.reduceReplicate, String.reduceEq]
  intro r hr; dsimp only at hr
  simp (disch := omega) only [go_sem, Nat.reduceEqDiff, Nat.reduceAdd, Nat.reduceMul, Nat.reduceSub, Nat.reduceLeDiff, ↓reduceIte, reduceCtorEq, Int.reduceAdd, Int.reduceSub, Int.reduceMul, Int.reduceNeg, Int.reduceToNat, List.reduceReplicate, String.reduceEq, take_dBy, dBy_length, one_by]
  refine OwnJ.appendO (bytes := 1) (ownJ_empty hr) (by rw [dBy_length, Nat.mul_one]) (by omega) fun v2 H2 hv => ?_
  have hv2 : OwnJ H 5 1 b.length (dBy b) v2 H2 := by
    have := hv
    rw [Nat.zero_add] at this
    exact this
  simp (disch := omega) only [go_sem, Nat.reduceEqDiff, Nat.reduceAdd, Nat.reduceMul, Nat.reduceSub, Nat.reduceLeDiff, ↓reduceIte, reduceCtorEq, Int.reduceAdd, Int.reduceSub, Int.reduceMul, Int.reduceNeg, Int.reduceToNat, List.reduceReplicate, String.reduceEq]
  refine ((get_spec hG h0 b hb).lent (args := [v2]) (OwnJ.lend hv2 []) rfl).mono ?_
  rintro _ H3 ⟨rfl, rfl⟩
  simp (disch := omega) only [go_sem, Nat.reduceEqDiff, Nat.reduceAdd, Nat.reduceMul, Nat.reduceSub, Nat.reduceLeDiff, ↓reduceIte, reduceCtorEq, Int.reduceAdd, Int.reduceSub, Int.reduceMul, Int.reduceNeg, Int.reduceToNat, List.reduceReplicate, String.reduceEq, DVal.cells]
  rw [hz]
  intro r4 hr4; dsimp only at hr4
  simp (disch := omega) only [go_sem, Nat.reduceEqDiff, Nat.reduceAdd, Nat.reduceMul, Nat.reduceSub, Nat.reduceLeDiff, ↓reduceIte, reduceCtorEq, Int.reduceAdd, Int.reduceSub, Int.reduceMul, Int.reduceNeg, Int.reduceToNat, List.reduceReplicate, String.reduceEq, dInsn_len, insn_t7, insn_d7, insn_one, List.append_nil]
  refine (rget_spec G _ b hb).mono ?_
  rintro _ H4 ⟨rfl, rfl⟩
  simp (disch := omega) only [go_sem, Nat.reduceEqDiff, Nat.reduceAdd, Nat.reduceMul, Nat.reduceSub, Nat.reduceLeDiff, ↓reduceIte, reduceCtorEq, Int.reduceAdd, Int.reduceSub, Int.reduceMul, Int.reduceNeg, Int.reduceToNat, List.reduceReplicate, String.reduceEq, DVal.cells]
  rw [hz]
  intro r7 hr7; dsimp only at hr7
  obtain ⟨m2, m1, hr7'⟩ := upd_eq_none.1 hr7
  have hv3 := (hv2.new hr4 (some (DObj.cells (dInsn (getBD b).1) 53))).new hr7 (some (DObj.cells (dInsn (getBD b).1) 53))
  simp (disch := omega) only [go_sem, Nat.reduceEqDiff, Nat.reduceAdd, Nat.reduceMul, Nat.reduceSub, Nat.reduceLeDiff, ↓reduceIte, reduceCtorEq, Int.reduceAdd, Int.reduceSub, Int.reduceMul, Int.reduceNeg, Int.reduceToNat, List.reduceReplicate, String.reduceEq, m1, m2, dInsn_len, insn_t7, insn_d7, insn_one, List.append_nil, agg_eq agg_insn guard_insn (eq_insn (getBD b).1 (getBD b).1), decide_true, take_dBy, dBy_length, Nat.le_refl, strOf_dBy, Option.bind_some, hv3.strSrcB]
  refine (head22_spec hG _).mono ?_
  rintro _ H5 ⟨rfl, rfl⟩
  simp (disch := omega) only [go_sem, Nat.reduceEqDiff, Nat.reduceAdd, Nat.reduceMul, Nat.reduceSub, Nat.reduceLeDiff, ↓reduceIte, reduceCtorEq, Int.reduceAdd, Int.reduceSub, Int.reduceMul, Int.reduceNeg, Int.reduceToNat, List.reduceReplicate, String.reduceEq]
  exact DFin.sub hv3.sub (DFin.refl ⟨rfl, rfl⟩)

set_option maxHeartbeats 4000000 in
theorem insnNames_spec {G : Nat → DVal} (hG : GI G) (H : DHeap) : DCalls Tryd.prog G 13 [] H (DRet (.bool true) H) := by
  refine dcalls_intro Tryd.func13 Tryd.call13 rfl (by kernel_rfl) ?_
  simp (disch := omega) only [go_sem, Nat.reduceEqDiff, Nat.reduceAdd, Nat.reduceMul, Nat.reduceSub, Nat.reduceLeDiff, ↓reduceIte, reduceCtorEq, Int.reduceAdd, Int.reduceSub, Int.reduceMul, Int.reduceNeg, Int.reduceToNat, List.reduceReplicate, String.reduceEq]
  obtain ⟨I, hI⟩ : ∃ I : Nat → (Nat → DVal) → DHeap → Prop, ∀ i env heap, I i env heap ↔ (env 1 = dI ((min i 58 - 1 : Nat) : Int) ∧ env 2 = dI i ∧ i ≤ 256 ∧ heap = H) := ⟨_, fun _ _ _ => Iff.rfl⟩
  refine DLoop.run I (fun i => 256 - i) 0 ((hI _ _ _).2 ?_) ?_
  · simp (disch := omega) only [go_sem, Nat.reduceEqDiff, Nat.reduceAdd, Nat.reduceMul, Nat.reduceSub, Nat.reduceLeDiff, ↓reduceIte, reduceCtorEq, Int.reduceAdd, Int.reduceSub, Int.reduceMul, Int.reduceNeg, Int.reduceToNat, List.reduceReplicate, String.reduceEq]
    (repeat' apply And.intro) <;> (try first | rfl | assumption | omega)
  · intro i env heap hi
    obtain ⟨e1, e2, hi256, rfl⟩ := (hI _ _ _).1 hi
    by_cases hlt : i < 256
    · have hlt' : (i : Int) < 256 := by omega
      have hw : IntKind.u8.wrap (i : Int) = (i : Int) := by rw [IntKind.wrap_u8]; omega
      cases ho : isO (i : Int) with
      | false =>
        have hn : (rowAt (i : Int)).1 = [] := by rw [rowAt_name, ho]; rfl
        have hout : i = 0 ∨ 58 ≤ i := by
          rw [isO, Bool.and_eq_false_iff] at ho
          rcases ho with h | h <;> (have := of_decide_eq_false h; omega)
        have hrt : (decide (42 ≤ (i : Int)) && decide ((i : Int) ≤ 57)) = false := by
          rw [Bool.and_eq_false_iff]
          rcases hout with h | h
          · left; exact decide_eq_false (by omega)
          · right; exact decide_eq_false (by omega)
        have hra : raisesC (i : Int) = false := by
          refine decide_eq_false fun h => ?_
          simp only [raisesL, List.mem_cons, List.not_mem_nil, or_false] at h
          omega
        simp (disch := omega) only [go_sem, Nat.reduceEqDiff, Nat.reduceAdd, Nat.reduceMul, Nat.reduceSub, Nat.reduceLeDiff, ↓reduceIte, reduceCtorEq, Int.reduceAdd, Int.reduceSub, Int.reduceMul, Int.reduceNeg, Int.reduceToNat, List.reduceReplicate, String.reduceEq, e1, e2, hlt', hw]
        refine (name_spec hG.rows _ (i : Int) (by omega) (by omega)).mono ?_
        rintro _ H1 ⟨rfl, rfl⟩
        rw [hn, ho]
        simp (disch := omega) only [go_sem, Nat.reduceEqDiff, Nat.reduceAdd, Nat.reduceMul, Nat.reduceSub, Nat.reduceLeDiff, ↓reduceIte, reduceCtorEq, Int.reduceAdd, Int.reduceSub, Int.reduceMul, Int.reduceNeg, Int.reduceToNat, List.reduceReplicate, String.reduceEq, e1, e2, hlt', hw]
        refine (runtime_spec G _ (i : Int) (by omega) (by omega)).mono ?_
        rintro _ H1 ⟨rfl, rfl⟩
        rw [hrt]
        simp (disch := omega) only [go_sem, Nat.reduceEqDiff, Nat.reduceAdd, Nat.reduceMul, Nat.reduceSub, Nat.reduceLeDiff, ↓reduceIte, reduceCtorEq, Int.reduceAdd, Int.reduceSub, Int.reduceMul, Int.reduceNeg, Int.reduceToNat, List.reduceReplicate, String.reduceEq, e1, e2, hlt', hw]
        refine (raises_spec (i : Int)).mono ?_
        rintro _ H1 ⟨rfl, rfl⟩
        rw [hra]
        simp (disch := omega) only [go_sem, Nat.reduceEqDiff, Nat.reduceAdd, Nat.reduceMul, Nat.reduceSub, Nat.reduceLeDiff, ↓reduceIte, reduceCtorEq, Int.reduceAdd, Int.reduceSub, Int.reduceMul, Int.reduceNeg, Int.reduceToNat, List.reduceReplicate, String.reduceEq, e1, e2, hlt', hw]
        refine ⟨i + 1, _, GhostS.refl _, (hI _ _ _).2 ?_, by omega⟩
        have hmin : min (i + 1) 58 - 1 = min i 58 - 1 := by omega
        simp (disch := omega) only [go_sem, Nat.reduceEqDiff, Nat.reduceAdd, Nat.reduceMul, Nat.reduceSub, Nat.reduceLeDiff, ↓reduceIte, reduceCtorEq, Int.reduceAdd, Int.reduceSub, Int.reduceMul, Int.reduceNeg, Int.reduceToNat, List.reduceReplicate, String.reduceEq, e1, e2, hmin]
        (repeat' apply And.intro) <;> (try first | rfl | assumption | omega)
      | true =>
        have hin : 1 ≤ i ∧ i ≤ 57 := by
          rw [isO, Bool.and_eq_true] at ho
          have h1 := of_decide_eq_true ho.1; have h2 := of_decide_eq_true ho.2; omega
        have hn : (rowAt (i : Int)).1 = nameC i := by rw [rowAt_name, ho]; rfl
        have hnn : namedC (nameC i) = (i : Int) := namedC_name hin.1 hin.2
        have hge : decide (1 ≤ (i : Int)) = true := decide_eq_true (by omega)
        simp (disch := omega) only [go_sem, Nat.reduceEqDiff, Nat.reduceAdd, Nat.reduceMul, Nat.reduceSub, Nat.reduceLeDiff, ↓reduceIte, reduceCtorEq, Int.reduceAdd, Int.reduceSub, Int.reduceMul, Int.reduceNeg, Int.reduceToNat, List.reduceReplicate, String.reduceEq, e1, e2, hlt', hw]
        refine (name_spec hG.rows _ (i : Int) (by omega) (by omega)).mono ?_
        rintro _ H1 ⟨rfl, rfl⟩
        rw [hn, ho]
        simp (disch := omega) only [go_sem, Nat.reduceEqDiff, Nat.reduceAdd, Nat.reduceMul, Nat.reduceSub, Nat.reduceLeDiff, ↓reduceIte, reduceCtorEq, Int.reduceAdd, Int.reduceSub, Int.reduceMul, Int.reduceNeg, Int.reduceToNat, List.reduceReplicate, String.reduceEq, e1, e2, hlt', hw]
        refine (named_spec hG.rows _ (nameC i)).mono ?_
        rintro _ H1 ⟨rfl, rfl⟩
        rw [hnn, hge]
        simp (disch := omega) only [go_sem, Nat.reduceEqDiff, Nat.reduceAdd, Nat.reduceMul, Nat.reduceSub, Nat.reduceLeDiff, ↓reduceIte, reduceCtorEq, Int.reduceAdd, Int.reduceSub, Int.reduceMul, Int.reduceNeg, Int.reduceToNat, List.reduceReplicate, String.reduceEq, e1, e2, hlt', hw]
        refine ⟨i + 1, _, GhostS.refl _, (hI _ _ _).2 ?_, by omega⟩
        have hmin : min (i + 1) 58 - 1 = min i 58 - 1 + 1 := by omega
        simp (disch := omega) only [go_sem, Nat.reduceEqDiff, Nat.reduceAdd, Nat.reduceMul, Nat.reduceSub, Nat.reduceLeDiff, ↓reduceIte, reduceCtorEq, Int.reduceAdd, Int.reduceSub, Int.reduceMul, Int.reduceNeg, Int.reduceToNat, List.reduceReplicate, String.reduceEq, e1, e2, hmin]
        (repeat' apply And.intro) <;> (try first | rfl | assumption | omega)
    · have h256 : i = 256 := by omega
      subst h256
      simp (disch := omega) only [go_sem, Nat.reduceEqDiff, Nat.reduceAdd, Nat.reduceMul, Nat.reduceSub, Nat.reduceLeDiff, ↓reduceIte, reduceCtorEq, Int.reduceAdd, Int.reduceSub, Int.reduceMul, Int.reduceNeg, Int.reduceToNat, List.reduceReplicate, String.reduceEq, e1, e2]
      refine (head22_spec hG _).mono ?_
      rintro _ H1 ⟨rfl, rfl⟩
      simp (disch := omega) only [go_sem, Nat.reduceEqDiff, Nat.reduceAdd, Nat.reduceMul, Nat.reduceSub, Nat.reduceLeDiff, ↓reduceIte, reduceCtorEq, Int.reduceAdd, Int.reduceSub, Int.reduceMul, Int.reduceNeg, Int.reduceToNat, List.reduceReplicate, String.reduceEq]
      exact DFin.refl ⟨rfl, rfl⟩
end Go.Dl

-- Chapter 22: InsnBack at the data level.
namespace Go.Dl
open Go Go.Proofs
set_option maxRecDepth 10000

theorem dBy_take (l : List UInt8) (n : Nat) : (dBy l).take n = dBy (l.take n) := by rw [dBy, dBy, List.map_take]
theorem text_eq {x y : Insn} (hx : mayI x = true) (hy : mayI y = true) : decide (textI x = textI y) = decide (x = y) :=
  decide_eq_decide.2 ⟨textI_inj hx hy, fun h => by rw [h]⟩
theorem begins_eq {x y : Insn} (hx : mayI x = true) (hy : mayI y = true) : decide ((bytesI y).take (bytesI x).length = bytesI x) = decide (x = y) :=
  decide_eq_decide.2 ⟨fun h => bytesI_pre hx hy (by rw [← h]; exact List.take_prefix _ _), fun h => by rw [h, List.take_length]⟩

set_option maxHeartbeats 8000000 in
theorem insnBack_spec {G : Nat → DVal} (hG : GI G) (H : DHeap) (x y : Insn) (p0 : 0 ≤ x.op) (p1 : x.op < 256) (q0 : 0 ≤ y.op) (q1 : y.op < 256) (m : List UInt8) (hm : m.length ≤ 1000000000000) :
    DCalls Tryd.prog G 12 [.agg (dInsn x), .agg (dInsn y), .vslice (dBy m) m.length] H (DRet (.bool true) H) := by
  have hz : [DVal.int IntKind.u8 0, DVal.int IntKind.i64 0, DVal.int IntKind.i64 0, DVal.int IntKind.i64 0, DVal.int IntKind.i64 0, DVal.int IntKind.i64 0, DVal.int IntKind.i64 0] = dInsn (op0 0) := rfl
  refine dcalls_intro Tryd.func12 Tryd.call12 rfl (by kernel_rfl) ?_
  simp (disch := omega) only [go_sem, Nat.reduceEqDiff, Nat.reduceAdd, Nat.reduceMul, Nat.reduceSub, Nat.reduceLeDiff, ↓reduceIte, reduceCtorEq, Int.reduceAdd, Int.reduceSub, Int.reduceMul, Int.reduceNeg, Int.reduceToNat, List.reduceReplicate, String.reduceEq, DVal.cells]
  intro r3 hr3; dsimp only at hr3
  simp (disch := omega) only [go_sem, Nat.reduceEqDiff, Nat.reduceAdd, Nat.reduceMul, Nat.reduceSub, Nat.reduceLeDiff, ↓reduceIte, reduceCtorEq, Int.reduceAdd, Int.reduceSub, Int.reduceMul, Int.reduceNeg, Int.reduceToNat, List.reduceReplicate, String.reduceEq, DVal.cells]
  intro r4 hr4; dsimp only at hr4
  obtain ⟨m2, m1, hr4'⟩ := upd_eq_none.1 hr4
  simp (disch := omega) only [go_sem, Nat.reduceEqDiff, Nat.reduceAdd, Nat.reduceMul, Nat.reduceSub, Nat.reduceLeDiff, ↓reduceIte, reduceCtorEq, Int.reduceAdd, Int.reduceSub, Int.reduceMul, Int.reduceNeg, Int.reduceToNat, List.reduceReplicate, String.reduceEq, m1, m2, dInsn_len, insn_t7]
  refine (textI_spec hG _ x p0 p1).mono ?_
  rintro _ H1 ⟨rfl, rfl⟩
  simp (disch := omega) only [go_sem, Nat.reduceEqDiff, Nat.reduceAdd, Nat.reduceMul, Nat.reduceSub, Nat.reduceLeDiff, ↓reduceIte, reduceCtorEq, Int.reduceAdd, Int.reduceSub, Int.reduceMul, Int.reduceNeg, Int.reduceToNat, List.reduceReplicate, String.reduceEq, m1, m2, dInsn_len, insn_t7]
  refine (put_spec hG _ x p0 p1).mono ?_
  rintro _ H1 ⟨rfl, rfl⟩
  cases hx : mayI x with
  | false =>
    rw [show textID x = ([], 2) by rw [textID, hx]; rfl, show putID x = ([], 2) by rw [putID, hx]; rfl]
    simp (disch := omega) only [go_sem, Nat.reduceEqDiff, Nat.reduceAdd, Nat.reduceMul, Nat.reduceSub, Nat.reduceLeDiff, ↓reduceIte, reduceCtorEq, Int.reduceAdd, Int.reduceSub, Int.reduceMul, Int.reduceNeg, Int.reduceToNat, List.reduceReplicate, String.reduceEq, m1, m2, dInsn_len, insn_t7]
    refine (mayI_spec hG _ x p0 p1).mono ?_
    rintro _ H1 ⟨rfl, rfl⟩
    rw [hx]
    simp (disch := omega) only [go_sem, Nat.reduceEqDiff, Nat.reduceAdd, Nat.reduceMul, Nat.reduceSub, Nat.reduceLeDiff, ↓reduceIte, reduceCtorEq, Int.reduceAdd, Int.reduceSub, Int.reduceMul, Int.reduceNeg, Int.reduceToNat, List.reduceReplicate, String.reduceEq, m1, m2, dInsn_len, insn_t7]
    refine (head22_spec hG _).mono ?_
    rintro _ H1 ⟨rfl, rfl⟩
    simp (disch := omega) only [go_sem, Nat.reduceEqDiff, Nat.reduceAdd, Nat.reduceMul, Nat.reduceSub, Nat.reduceLeDiff, ↓reduceIte, reduceCtorEq, Int.reduceAdd, Int.reduceSub, Int.reduceMul, Int.reduceNeg, Int.reduceToNat, List.reduceReplicate, String.reduceEq]
    exact DFin.sub (show Sub H _ from (by repeat (first | exact Sub.refl _ | assumption | refine Sub.up ?_ (by assumption) _))) (DFin.refl ⟨rfl, rfl⟩)
  | true =>
    have htl := textI_len hx
    have hbl := bytesI_length x
    have hfl := (fieldsI_ok x.op).1
    have hxx : decide (x = x) = true := decide_eq_true rfl
    rw [show textID x = (textI x, 0) by rw [textID, hx]; rfl, show putID x = (bytesI x, 0) by rw [putID, hx]; rfl]
    simp (disch := omega) only [go_sem, Nat.reduceEqDiff, Nat.reduceAdd, Nat.reduceMul, Nat.reduceSub, Nat.reduceLeDiff, ↓reduceIte, reduceCtorEq, Int.reduceAdd, Int.reduceSub, Int.reduceMul, Int.reduceNeg, Int.reduceToNat, List.reduceReplicate, String.reduceEq, m1, m2, dInsn_len, insn_t7]
    refine (mayI_spec hG _ x p0 p1).mono ?_
    rintro _ H1 ⟨rfl, rfl⟩
    rw [hx]
    simp (disch := omega) only [go_sem, Nat.reduceEqDiff, Nat.reduceAdd, Nat.reduceMul, Nat.reduceSub, Nat.reduceLeDiff, ↓reduceIte, reduceCtorEq, Int.reduceAdd, Int.reduceSub, Int.reduceMul, Int.reduceNeg, Int.reduceToNat, List.reduceReplicate, String.reduceEq, m1, m2, dInsn_len, insn_t7]
    refine (readI_spec hG _ (textI x) (by omega)).mono ?_
    rintro _ H1 ⟨rfl, rfl⟩
    rw [show readID (textI x) = (x, 0) by rw [readID, readI_text hx]]
    simp (disch := omega) only [go_sem, Nat.reduceEqDiff, Nat.reduceAdd, Nat.reduceMul, Nat.reduceSub, Nat.reduceLeDiff, ↓reduceIte, reduceCtorEq, Int.reduceAdd, Int.reduceSub, Int.reduceMul, Int.reduceNeg, Int.reduceToNat, List.reduceReplicate, String.reduceEq, m1, m2, dInsn_len, insn_t7, DVal.cells]
    rw [hz]
    intro r11 hr11; dsimp only at hr11
    obtain ⟨m4, m3, hr11a⟩ := upd_eq_none.1 hr11
    obtain ⟨m6, m5, hr11'⟩ := upd_eq_none.1 hr11a
    simp (disch := omega) only [go_sem, Nat.reduceEqDiff, Nat.reduceAdd, Nat.reduceMul, Nat.reduceSub, Nat.reduceLeDiff, ↓reduceIte, reduceCtorEq, Int.reduceAdd, Int.reduceSub, Int.reduceMul, Int.reduceNeg, Int.reduceToNat, List.reduceReplicate, String.reduceEq, m1, m2, m3, m4, m5, m6, dInsn_len, insn_t7, insn_d7, insn_one, List.append_nil]
    obtain ⟨Hb, hHb⟩ : ∃ Hb, Hb = upd (upd (upd H r3 (some (DObj.cells (dInsn x) 53))) r4 (some (DObj.cells (dInsn y) 53))) r11 (some (DObj.cells (dInsn x) 53)) := ⟨_, rfl⟩
    have b3 : Hb r3 = some (DObj.cells (dInsn x) 53) := by rw [hHb]; simp [upd, m1, m5]
    have b4 : Hb r4 = some (DObj.cells (dInsn y) 53) := by rw [hHb]; simp [upd, m3]
    have b11 : Hb r11 = some (DObj.cells (dInsn x) 53) := by rw [hHb]; exact upd_same _ _ _
    have hsb : Sub H Hb := by rw [hHb]; exact (((Sub.refl H).new hr3 _).new hr4 _).new hr11 _
    rw [← hHb]
    intro r5 hr5; dsimp only at hr5
    simp (disch := omega) only [go_sem, Nat.reduceEqDiff, Nat.reduceAdd, Nat.reduceMul, Nat.reduceSub, Nat.reduceLeDiff, ↓reduceIte, reduceCtorEq, Int.reduceAdd, Int.reduceSub, Int.reduceMul, Int.reduceNeg, Int.reduceToNat, List.reduceReplicate, String.reduceEq, take_dBy, dBy_length, one_by]
    intro r6 hr6
    have hr6 : Hb r6 = none := by
      by_cases e : r6 = r5
      · rw [e]; exact hr5
      · simpa [e] using hr6
    rw [upd_self hr5]
    have hv2 : OwnJ Hb 5 1 (bytesI x).length (dBy (bytesI x)) (.oslice 1 r6 0 (bytesI x).length (bytesI x).length) (upd Hb r6 (some (.cells (dBy (bytesI x)) 5))) :=
      .inr ⟨r6, hr6, by rw [dBy_length, Nat.mul_one], rfl, upd_same _ _ _, (Sub.refl Hb).new hr6 _⟩
    refine OwnJ.appendO (bytes := 1) hv2 (by rw [dBy_length, Nat.mul_one]) (by omega) fun v3 H3 hv3' => ?_
    have hv3 : OwnJ Hb 5 1 (bytesI x ++ m).length (dBy (bytesI x ++ m)) v3 H3 := by rw [List.length_append, dBy_append]; exact hv3'
    simp (disch := omega) only [go_sem, Nat.reduceEqDiff, Nat.reduceAdd, Nat.reduceMul, Nat.reduceSub, Nat.reduceLeDiff, ↓reduceIte, reduceCtorEq, Int.reduceAdd, Int.reduceSub, Int.reduceMul, Int.reduceNeg, Int.reduceToNat, List.reduceReplicate, String.reduceEq]
    refine ((get_spec hG h0 (bytesI x ++ m) (by rw [List.length_append]; omega)).lent (args := [v3]) (OwnJ.lend hv3 []) rfl).mono ?_
    rintro _ H4 ⟨rfl, rfl⟩
    rw [show getBD (bytesI x ++ m) = (x, ((bytesI x).length : Int), 0) by rw [getBD, getB_bytes hx]]
    simp (disch := omega) only [go_sem, Nat.reduceEqDiff, Nat.reduceAdd, Nat.reduceMul, Nat.reduceSub, Nat.reduceLeDiff, ↓reduceIte, reduceCtorEq, Int.reduceAdd, Int.reduceSub, Int.reduceMul, Int.reduceNeg, Int.reduceToNat, List.reduceReplicate, String.reduceEq, DVal.cells]
    rw [hz]
    intro r13 hr13; dsimp only at hr13
    have w3 := hv3.keep b3
    have w4 := hv3.keep b4
    have w11 := hv3.keep b11
    have n3 : r3 ≠ r13 := fun e => by rw [e, hr13] at w3; cases w3
    have n4 : r4 ≠ r13 := fun e => by rw [e, hr13] at w4; cases w4
    have n11 : r11 ≠ r13 := fun e => by rw [e, hr13] at w11; cases w11
    have hs4 : Sub H (upd H4 r13 (some (DObj.cells (dInsn x) 53))) := (hsb.trans hv3.sub).new hr13 _
    simp (disch := omega) only [go_sem, Nat.reduceEqDiff, Nat.reduceAdd, Nat.reduceMul, Nat.reduceSub, Nat.reduceLeDiff, ↓reduceIte, reduceCtorEq, Int.reduceAdd, Int.reduceSub, Int.reduceMul, Int.reduceNeg, Int.reduceToNat, List.reduceReplicate, String.reduceEq, dInsn_len, insn_t7, insn_d7, insn_one, List.append_nil, w3, w4, w11, n3, n4, n11, agg_ne agg_insn guard_insn (eq_insn x x), hxx]
    refine (textI_spec hG _ y q0 q1).mono ?_
    rintro _ H5 ⟨rfl, rfl⟩
    simp (disch := omega) only [go_sem, Nat.reduceEqDiff, Nat.reduceAdd, Nat.reduceMul, Nat.reduceSub, Nat.reduceLeDiff, ↓reduceIte, reduceCtorEq, Int.reduceAdd, Int.reduceSub, Int.reduceMul, Int.reduceNeg, Int.reduceToNat, List.reduceReplicate, String.reduceEq, dInsn_len, insn_t7, w3, w4, n3, n4]
    refine (put_spec hG _ y q0 q1).mono ?_
    rintro _ H5 ⟨rfl, rfl⟩
    cases hy : mayI y with
    | false =>
      rw [show textID y = ([], 2) by rw [textID, hy]; rfl, show putID y = ([], 2) by rw [putID, hy]; rfl]
      simp (disch := omega) only [go_sem, Nat.reduceEqDiff, Nat.reduceAdd, Nat.reduceMul, Nat.reduceSub, Nat.reduceLeDiff, ↓reduceIte, reduceCtorEq, Int.reduceAdd, Int.reduceSub, Int.reduceMul, Int.reduceNeg, Int.reduceToNat, List.reduceReplicate, String.reduceEq]
      refine (head22_spec hG _).mono ?_
      rintro _ H6 ⟨rfl, rfl⟩
      simp (disch := omega) only [go_sem, Nat.reduceEqDiff, Nat.reduceAdd, Nat.reduceMul, Nat.reduceSub, Nat.reduceLeDiff, ↓reduceIte, reduceCtorEq, Int.reduceAdd, Int.reduceSub, Int.reduceMul, Int.reduceNeg, Int.reduceToNat, List.reduceReplicate, String.reduceEq]
      exact DFin.sub hs4 (DFin.refl ⟨rfl, rfl⟩)
    | true =>
      rw [show textID y = (textI y, 0) by rw [textID, hy]; rfl, show putID y = (bytesI y, 0) by rw [putID, hy]; rfl]
      have hty := text_eq hx hy
      by_cases hln : (bytesI x).length ≤ (bytesI y).length
      · have hbg := begins_eq hx hy
        have hmin : ((bytesI y).take (bytesI x).length).length = (bytesI x).length := by rw [List.length_take]; omega
        simp (disch := omega) only [go_sem, Nat.reduceEqDiff, Nat.reduceAdd, Nat.reduceMul, Nat.reduceSub, Nat.reduceLeDiff, ↓reduceIte, reduceCtorEq, Int.reduceAdd, Int.reduceSub, Int.reduceMul, Int.reduceNeg, Int.reduceToNat, List.reduceReplicate, String.reduceEq]
        refine dwp_draws (by kernel_rfl) (.take 0 (.take 1 (.take 2 (.take 3 (.take 4 (.take 5 (.take 6 (.take 7 (.take 8 (.take 9 (.take 10 (.take 11 (.take 12 (.take 13 (.take 14 (.take 15 .done)))))))))))))))) (by kernel_rfl) ?_
        simp (disch := omega) only [go_sem, Nat.reduceEqDiff, Nat.reduceAdd, Nat.reduceMul, Nat.reduceSub, Nat.reduceLeDiff, ↓reduceIte, reduceCtorEq, Int.reduceAdd, Int.reduceSub, Int.reduceMul, Int.reduceNeg, Int.reduceToNat, List.reduceReplicate, String.reduceEq, hln, Nat.sub_zero, dBy_take, dBy_length, hmin, Nat.le_refl, List.take_take, Nat.min_self, List.take_length, strOf_dBy, Option.bind_some, hbg]
        by_cases hxy : x = y
        · have htn : textI x = textI y := by rw [hxy]
          have hd : decide (x = y) = true := decide_eq_true hxy
          simp (disch := omega) only [go_sem, Nat.reduceEqDiff, Nat.reduceAdd, Nat.reduceMul, Nat.reduceSub, Nat.reduceLeDiff, ↓reduceIte, reduceCtorEq, Int.reduceAdd, Int.reduceSub, Int.reduceMul, Int.reduceNeg, Int.reduceToNat, List.reduceReplicate, String.reduceEq, dInsn_len, insn_t7, w3, w4, n3, n4, agg_eq agg_insn guard_insn (eq_insn x y), htn, hd]
          refine (head22_spec hG _).mono ?_
          rintro _ H6 ⟨rfl, rfl⟩
          simp (disch := omega) only [go_sem, Nat.reduceEqDiff, Nat.reduceAdd, Nat.reduceMul, Nat.reduceSub, Nat.reduceLeDiff, ↓reduceIte, reduceCtorEq, Int.reduceAdd, Int.reduceSub, Int.reduceMul, Int.reduceNeg, Int.reduceToNat, List.reduceReplicate, String.reduceEq]
          exact DFin.sub hs4 (DFin.refl ⟨rfl, rfl⟩)
        · have htn : ¬ textI x = textI y := fun e => hxy (textI_inj hx hy e)
          simp (disch := omega) only [go_sem, Nat.reduceEqDiff, Nat.reduceAdd, Nat.reduceMul, Nat.reduceSub, Nat.reduceLeDiff, ↓reduceIte, reduceCtorEq, Int.reduceAdd, Int.reduceSub, Int.reduceMul, Int.reduceNeg, Int.reduceToNat, List.reduceReplicate, String.reduceEq, dInsn_len, insn_t7, w3, w4, n3, n4, agg_eq agg_insn guard_insn (eq_insn x y), hxy, htn, decide_false]
          refine (head22_spec hG _).mono ?_
          rintro _ H6 ⟨rfl, rfl⟩
          simp (disch := omega) only [go_sem, Nat.reduceEqDiff, Nat.reduceAdd, Nat.reduceMul, Nat.reduceSub, Nat.reduceLeDiff, ↓reduceIte, reduceCtorEq, Int.reduceAdd, Int.reduceSub, Int.reduceMul, Int.reduceNeg, Int.reduceToNat, List.reduceReplicate, String.reduceEq]
          exact DFin.sub hs4 (DFin.refl ⟨rfl, rfl⟩)
      · have hsn : ¬ x = y := fun e => by rw [e] at hln; omega
        have htn : ¬ textI x = textI y := fun e => hsn (textI_inj hx hy e)
        simp (disch := omega) only [go_sem, Nat.reduceEqDiff, Nat.reduceAdd, Nat.reduceMul, Nat.reduceSub, Nat.reduceLeDiff, ↓reduceIte, reduceCtorEq, Int.reduceAdd, Int.reduceSub, Int.reduceMul, Int.reduceNeg, Int.reduceToNat, List.reduceReplicate, String.reduceEq]
        refine dwp_draws (by kernel_rfl) (.take 0 (.take 1 (.take 2 (.take 3 (.take 4 (.take 5 (.take 6 (.take 7 (.take 8 (.take 9 (.take 10 (.take 11 (.take 12 (.take 13 (.take 14 (.take 15 .done)))))))))))))))) (by kernel_rfl) ?_
        simp (disch := omega) only [go_sem, Nat.reduceEqDiff, Nat.reduceAdd, Nat.reduceMul, Nat.reduceSub, Nat.reduceLeDiff, ↓reduceIte, reduceCtorEq, Int.reduceAdd, Int.reduceSub, Int.reduceMul, Int.reduceNeg, Int.reduceToNat, List.reduceReplicate, String.reduceEq, hln]
        simp (disch := omega) only [go_sem, Nat.reduceEqDiff, Nat.reduceAdd, Nat.reduceMul, Nat.reduceSub, Nat.reduceLeDiff, ↓reduceIte, reduceCtorEq, Int.reduceAdd, Int.reduceSub, Int.reduceMul, Int.reduceNeg, Int.reduceToNat, List.reduceReplicate, String.reduceEq, dInsn_len, insn_t7, w3, w4, n3, n4, agg_eq agg_insn guard_insn (eq_insn x y), hsn, htn, decide_false]
        refine (head22_spec hG _).mono ?_
        rintro _ H6 ⟨rfl, rfl⟩
        simp (disch := omega) only [go_sem, Nat.reduceEqDiff, Nat.reduceAdd, Nat.reduceMul, Nat.reduceSub, Nat.reduceLeDiff, ↓reduceIte, reduceCtorEq, Int.reduceAdd, Int.reduceSub, Int.reduceMul, Int.reduceNeg, Int.reduceToNat, List.reduceReplicate, String.reduceEq]
        exact DFin.sub hs4 (DFin.refl ⟨rfl, rfl⟩)
end Go.Dl

-- THE READING, PART 1: what was read of the input before a call is read the same behind it, if the call left all old memory as it was.
namespace Go.Dl
open Go

section
variable {H : Type} {enc : TypeId × Value → H} {P : Program} {w w' : World}

/-- All that was there is there. -/
def Stands (w w' : World) : Prop := ∀ b, b < w.heap.size → w'.heap[b]? = w.heap[b]?

theorem Stands.cell (h : Stands w w') {a : Addr} {x : Value} (hc : w.cell? a = some x) : w'.cell? a = some x := by
  have hlt : a.block < w.heap.size := by
    unfold World.cell? at hc
    rcases Nat.lt_or_ge a.block w.heap.size with hl | hl
    · exact hl
    · simp [Array.getElem?_eq_none hl] at hc
  unfold World.cell? at hc ⊢
  rw [h _ hlt]; exact hc

theorem mapM_some {α β : Type} {f g : α → Option β} : ∀ {l : List α} {r : List β}, l.mapM f = some r → (∀ x ∈ l, ∀ y, f x = some y → y ∈ r → g x = some y) → l.mapM g = some r
  | [], r, h, _ => by simpa using h
  | x :: l, r, h, hg => by
    rw [List.mapM_cons] at h ⊢
    simp only [Option.bind_eq_bind, Option.bind_eq_some_iff, Option.pure_def, Option.some.injEq] at h ⊢
    obtain ⟨y, hy, ys, hys, rfl⟩ := h
    exact ⟨y, hg x (by simp) y hy (by simp), ys, mapM_some hys (fun z hz u hu hm => hg z (by simp [hz]) u hu (by simp [hm])), rfl⟩

theorem Stands.cells (h : Stands w w') {base : Nat} {a : Addr} {n : Nat} {cs : List Value} (hc : w.cells? base a n = some cs) : w'.cells? base a n = some cs := by
  unfold World.cells? at hc ⊢
  split at hc
  · rename_i hb; rw [if_pos hb]; exact mapM_some hc fun i _ y hy _ => h.cell hy
  · cases hc

/-- The types that a reading meets: none is an interface; the elements of slices have cells. -/
structure Closed (P : Program) (T : TypeId → Prop) : Prop where
  ptr : ∀ t e, T t → P.underlying t = some (.pointer e) → T e
  slice : ∀ t e, T t → P.underlying t = some (.slice e) → 0 < P.cellsOf e ∧ T e
  struct : ∀ t fs, T t → P.underlying t = some (.struct fs) → ∀ f ∈ fs.toList, T f.type
  array : ∀ t n e, T t → P.underlying t = some (.array n e) → T e
  iface : ∀ t m, T t → P.underlying t ≠ some (.interface m)
  map : ∀ t k e, T t → P.underlying t = some (.map k e) → T e

def closedB (P : Program) (ts : List TypeId) : Bool := ts.all fun t => match P.underlying t with
  | some (.pointer e) => ts.contains e
  | some (.slice e) => decide (0 < P.cellsOf e) && ts.contains e
  | some (.struct fs) => fs.toList.all fun f => ts.contains f.type
  | some (.array _ e) => ts.contains e
  | some (.interface _) => false
  | some (.map _ e) => ts.contains e
  | _ => true

theorem closed_of {P : Program} {ts : List TypeId} (h : closedB P ts = true) : Closed P (· ∈ ts) := by
  unfold closedB at h
  rw [List.all_eq_true] at h
  refine ⟨fun t e ht hu => ?_, fun t e ht hu => ?_, fun t fs ht hu => ?_, fun t n e ht hu => ?_, fun t m ht hu => ?_, fun t k e ht hu => ?_⟩
  all_goals have h1 := h t ht; rw [hu] at h1
  · simpa using h1
  · simpa using h1
  · intro f hf; simpa using List.all_eq_true.1 h1 f hf
  · simpa using h1
  · cases h1
  · simpa using h1

theorem trod_keep (h : Stands w w') {T : TypeId → Prop} (hT : Closed P T) {base : Nat} {sp : Nat → Bool} {held : Bool} :
    ∀ (fuel : Nat) (t : TypeId) (cs : List Value) (d : DataW H) (ps : List MemPlace), T t → DataW.trod enc P w base (fun _ => true) held fuel t cs = some (d, ps) → (∀ p ∈ ps, sp p.block = true) →
      DataW.trod enc P w' base sp held fuel t cs = some (d, ps)
  | 0, _, _, _, _, _, hh, _ => by simp [DataW.trod] at hh
  | fuel + 1, t, cs, d, ps, ht, hh, hp => by
    have ih := @trod_keep h T hT base sp held fuel
    unfold DataW.trod at hh ⊢
    split at hh <;> (try (first | exact hh | (simp at hh; done)))
    · -- pointer
      rename_i e a hu
      simp only [Option.map_eq_some_iff, Option.bind_eq_some_iff, Prod.mk.injEq] at hh ⊢
      obtain ⟨x, ⟨c, hc, hx⟩, rfl, rfl⟩ := hh
      exact ⟨x, ⟨c, h.cells hc, ih _ _ x.1 x.2 (hT.ptr _ _ ht hu) hx fun p hpm => hp p (by simp [hpm])⟩, rfl, rfl⟩
    · -- slice
      rename_i e a len cap hu
      dsimp only at hh ⊢
      split at hh
      · rename_i hc
        rw [if_pos hc]
        simp only [Option.bind_eq_some_iff, Option.map_eq_some_iff, if_true, Prod.mk.injEq] at hh ⊢
        obtain ⟨elems, he, rest, hr, rfl, rfl⟩ := hh
        have hp1 : ∀ y ∈ elems, ∀ p ∈ y.2, sp p.block = true := fun y hy p hpm => hp p (by
          simp only [List.mem_append, List.mem_flatMap]
          exact .inr ⟨y, .inl hy, hpm⟩)
        have hp2 : ∀ y ∈ rest, ∀ p ∈ y.2, sp p.block = true := fun y hy p hpm => hp p (by
          simp only [List.mem_append, List.mem_flatMap]
          exact .inr ⟨y, .inr hy, hpm⟩)
        refine ⟨elems, mapM_some he (fun i _ y hy hym => ?_), rest, ?_, rfl, rfl⟩
        · simp only [Option.bind_eq_some_iff] at hy ⊢
          obtain ⟨c, hc1, hc2⟩ := hy
          exact ⟨c, h.cells hc1, ih _ _ y.1 y.2 (hT.slice _ _ ht hu).2 hc2 (hp1 y hym)⟩
        · have hr' : (List.range (cap - len)).mapM (fun j => (w'.cells? base (a.add ((len + j) * P.cellsOf e)) (P.cellsOf e)).bind (DataW.trod enc P w' base sp held fuel e)) = some rest := by
            refine mapM_some hr (fun i _ y hy hym => ?_)
            simp only [Option.bind_eq_some_iff] at hy ⊢
            obtain ⟨c, hc1, hc2⟩ := hy
            exact ⟨c, h.cells hc1, ih _ _ y.1 y.2 (hT.slice _ _ ht hu).2 hc2 (hp2 y hym)⟩
          by_cases hsp : sp a.block = true
          · rw [if_pos hsp]; exact hr'
          · rw [if_neg hsp]
            have hpos := (hT.slice t e ht hu).1
            have hlen : rest.length = 0 := by
              rcases Nat.eq_zero_or_pos rest.length with h0 | h0
              · exact h0
              · exfalso
                refine hsp (hp (.cell a.block a.off) ?_)
                refine List.mem_append_left _ ?_
                unfold MemPlace.row
                refine List.mem_map.2 ⟨0, List.mem_range.2 (Nat.mul_pos (by omega) hpos), by simp⟩
            rw [List.eq_nil_of_length_eq_zero hlen]
      · cases hh
    · -- struct
      rename_i fs hu
      split at hh
      · rename_i hl
        rw [if_pos hl]
        simp only [Option.map_eq_some_iff, Prod.mk.injEq] at hh ⊢
        obtain ⟨xs, hx, rfl, rfl⟩ := hh
        exact ⟨xs, mapM_some hx (fun f hf y hy hym => ih _ _ y.1 y.2 (hT.struct _ _ ht hu f hf) hy fun p hpm => hp p (List.mem_flatMap.2 ⟨y, hym, hpm⟩)), rfl, rfl⟩
      · cases hh
    · -- array
      rename_i hu
      split at hh
      · rename_i hl
        rw [if_pos hl]
        simp only [Option.map_eq_some_iff, Prod.mk.injEq] at hh ⊢
        obtain ⟨xs, hx, rfl, rfl⟩ := hh
        exact ⟨xs, mapM_some hx (fun f hf y hy hym => ih _ _ y.1 y.2 (hT.array _ _ _ ht hu) hy fun p hpm => hp p (List.mem_flatMap.2 ⟨y, hym, hpm⟩)), rfl, rfl⟩
      · cases hh
    · -- interface
      rename_i hu
      exact (hT.iface _ _ ht hu).elim
    · -- map
      rename_i k e b hu
      split at hh
      · rename_i es clock hb
        have hlt : b < w.heap.size := (Array.getElem?_eq_some_iff.1 hb).1
        rw [h b hlt, hb]
        dsimp only at hh ⊢
        split at hh
        · rename_i hc
          rw [if_pos hc]
          simp only [Option.bind_eq_some_iff] at hh ⊢
          obtain ⟨entries, he, hr⟩ := hh
          split at hr
          · rename_i hri
            simp only [Option.some.injEq, Prod.mk.injEq] at hr
            obtain ⟨rfl, rfl⟩ := hr
            refine ⟨entries, mapM_some he (fun x _ y hy hym => ?_), by rw [if_pos hri]⟩
            simp only [Option.bind_eq_some_iff] at hy ⊢
            obtain ⟨key, hk, hy⟩ := hy
            refine ⟨key, hk, ?_⟩
            split at hy
            · rename_i hf
              rw [if_pos hf]
              simp only [Option.map_eq_some_iff] at hy ⊢
              obtain ⟨z, hz1, rfl⟩ := hy
              exact ⟨z, ih _ _ z.1 z.2 (hT.map _ _ _ ht hu) hz1 fun p hpm => hp p (by
                simp only [List.mem_cons, List.mem_flatMap]
                exact .inr ⟨_, hym, hpm⟩), rfl⟩
            · cases hy
          · cases hr
        · cases hh
      · cases hh

theorem Trod.keep (h : Stands w w') {T : TypeId → Prop} (hT : Closed P T) {base : Nat} {sp : Nat → Bool} {held : Bool} {t : TypeId} {v : Value} {d : DataW H} {ps : List MemPlace}
    (ht : T t) (hh : DataW.Trod enc P w base (fun _ => true) held t v d ps) (hp : ∀ p ∈ ps, sp p.block = true) : DataW.Trod enc P w' base sp held t v d ps := by
  obtain ⟨fuel, hh⟩ := hh
  exact ⟨fuel, trod_keep h hT fuel _ _ _ _ ht hh hp⟩

theorem TrodAll.keep (h : Stands w w') {T : TypeId → Prop} (hT : Closed P T) {base : Nat} {sp : Nat → Bool} {held : Bool} :
    ∀ {ts : List TypeId} {vs : List Value} {ds : List (DataW H)} {ps : List MemPlace}, (∀ t ∈ ts, T t) → DataW.TrodAll enc P w base (fun _ => true) held ts vs ds ps → (∀ p ∈ ps, sp p.block = true) → DataW.TrodAll enc P w' base sp held ts vs ds ps
  | [], [], [], _, _, hh, _ => hh
  | [], [], _ :: _, _, _, hh, _ => hh.elim
  | [], _ :: _, _, _, _, hh, _ => hh.elim
  | _ :: _, [], _, _, _, hh, _ => hh.elim
  | _ :: _, _ :: _, [], _, _, hh, _ => hh.elim
  | t :: ts, v :: vs, d :: ds, _, ht, ⟨p, q, h1, h2, rfl⟩, hp =>
    ⟨p, q, Trod.keep h hT (ht t (by simp)) h1 (fun x hx => hp x (by simp [hx])), TrodAll.keep h hT (fun u hu => ht u (by simp [hu])) h2 (fun x hx => hp x (by simp [hx])), rfl⟩

end
end Go.Dl
