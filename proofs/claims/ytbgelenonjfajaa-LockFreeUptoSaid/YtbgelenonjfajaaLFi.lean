/- The data level and the contracts of the functions that are reached (part 9). -/
import Derived.Test.YtbgelenonjfajaaLFh
set_option linter.unusedSimpArgs false
set_option linter.unusedVariables false
-- LockFree: the law.
namespace Go.Dl
open Go Go.Proofs
set_option maxRecDepth 100000
set_option maxHeartbeats 8000000 in
theorem lockFree_spec (G : Nat → DVal) (hG : ∀ g, ∃ r o, G g = .optr r o) (H : DHeap) (bases users more script : List Int) (hb : ∀ x ∈ bases, 0 ≤ x ∧ x < 256) (hu : ∀ x ∈ users, 0 ≤ x ∧ x < 256) (hmo : ∀ x ∈ more, 0 ≤ x ∧ x < 256) (hsc : ∀ x ∈ script, 0 ≤ x ∧ x < 65536)
    (hl1 : bases.length ≤ 1000000000) (hl2 : users.length ≤ 1000000000) (hl3 : more.length ≤ 1000000000) (hl4 : script.length ≤ 1000000000) :
    DCalls Try.prog G 3 [dBy8 bases, dBy8 users, dBy8 more, dSc script] H (DRet (.bool true) H) := by
  refine dcalls_intro Try.func3 Try.call3 rfl (by kernel_rfl) ?_
  simp (disch := omega) only [go_sem, ↓reduceIte, dBy8, dSc]
  intro r5 h5; dsimp only at h5
  simp (disch := omega) only [go_sem, ↓reduceIte, dBy8, dSc]
  refine dwp_draws (by kernel_rfl) (.take 0 (.take 1 (.take 2 (.take 3 (.take 4 (.take 5 (.take 6 (.take 7 (.take 8 (.take 9 .done)))))))))) (by kernel_rfl) ?_
  obtain ⟨n, hn⟩ : ∃ n, n = min bases.length 8 := ⟨_, rfl⟩
  obtain ⟨m, hm⟩ : ∃ m, m = min (min users.length more.length) 4 := ⟨_, rfl⟩
  obtain ⟨m1, hm1⟩ : ∃ m1, m1 = min users.length more.length := ⟨_, rfl⟩
  have hn' : (if (8 : Int) < (bases.length : Int) then (8 : Int) else (bases.length : Int)) = (n : Int) := by split <;> omega
  have hm'' : (if (more.length : Int) < (users.length : Int) then (more.length : Int) else (users.length : Int)) = (m1 : Int) := by split <;> omega
  have hm' : (if (4 : Int) < (m1 : Int) then (4 : Int) else (m1 : Int)) = (m : Int) := by split <;> omega
  have aw : ∀ K, Sub H K → DCalls Try.prog G 4 [] K fun e H' => DRet (.bool true) K e H' := fun K _ => awake32_spec G hG K
  by_cases c0 : n = 0
  · have c0' : (n : Int) = 0 := by omega
    simp (disch := omega) only [go_sem, ↓reduceIte, dBy8, dSc, hn', hm'', hm', c0']
    refine (awake32_spec G hG _).mono ?_
    rintro _ K ⟨rfl, rfl⟩
    simp (disch := omega) only [go_sem, ↓reduceIte]
    exact DFin.sub ((Sub.refl H).new h5 _) (DFin.refl ⟨rfl, rfl⟩)
  have c0' : ¬ (n : Int) = 0 := by omega
  by_cases c1 : m = 0
  · have c1' : (m : Int) = 0 := by omega
    simp (disch := omega) only [go_sem, ↓reduceIte, dBy8, dSc, hn', hm'', hm', c0', c1']
    refine (awake32_spec G hG _).mono ?_
    rintro _ K ⟨rfl, rfl⟩
    simp (disch := omega) only [go_sem, ↓reduceIte]
    exact DFin.sub ((Sub.refl H).new h5 _) (DFin.refl ⟨rfl, rfl⟩)
  have c1' : ¬ (m : Int) = 0 := by omega
  by_cases c2 : 400 < script.length
  · have c2' : (400 : Int) < (script.length : Int) := by omega
    simp (disch := omega) only [go_sem, ↓reduceIte, dBy8, dSc, hn', hm'', hm', c0', c1', c2']
    refine (awake32_spec G hG _).mono ?_
    rintro _ K ⟨rfl, rfl⟩
    simp (disch := omega) only [go_sem, ↓reduceIte]
    exact DFin.sub ((Sub.refl H).new h5 _) (DFin.refl ⟨rfl, rfl⟩)
  have c2' : ¬ (400 : Int) < (script.length : Int) := by omega
  simp (disch := omega) only [go_sem, ↓reduceIte, dBy8, dSc, hn', hm'', hm', c0', c1', c2']
  obtain ⟨X0, hX0⟩ : ∃ X0, X0 = upd H r5 (some (.cells [.vslice (users.map (.int .u8)) users.length] 22)) := ⟨_, rfl⟩
  have s0 : Sub H X0 := by rw [hX0]; exact (Sub.refl H).new h5 _
  have g5 : X0 r5 = some (.cells [.vslice (users.map (.int .u8)) users.length] 22) := by rw [hX0]; exact upd_same _ _ _
  rw [← hX0]
  refine dwp_cut (fun e s' => e = .normal ∧ s'.env 0 = dBy8 bases ∧ s'.env 2 = dBy8 more ∧ s'.env 3 = dSc script ∧ s'.env 5 = .optr r5 0 ∧ s'.env 9 = dI n ∧ s'.env 10 = dI m ∧ ∃ r rh rs, s'.env 11 = .optr r 0 ∧ s'.heap r = some (.cells (wC .nilSlice (.oslice 1 rh 0 n n) (.oslice 1 rs 0 n n) .nilSlice .nilSlice .nilSlice (List.replicate 32 .nilSlice)) 32) ∧ s'.heap rh = some (.cells (List.replicate n .nilSlice) 27) ∧ s'.heap rs = some (.cells (List.replicate n (dI 0)) 3) ∧ Sub X0 s'.heap ∧ X0 r = none ∧ X0 rh = none ∧ X0 rs = none ∧ rs ≠ rh ∧ r ≠ rh ∧ r ≠ rs) ?_ ?_
  · refine dwp_draws (by kernel_rfl) (.take 0 (.take 2 (.alt (.go 3 [] (.go 1 [] (.take 4 (.go 5 [] (.take 6 .done))))) (.go 1 [] (.go 3 [] (.take 4 (.go 5 [] (.take 6 .done)))))))) (by kernel_rfl) ?_
    simp (disch := omega) only [go_sem, ↓reduceIte, dBy8, dSc, hn', hm'', hm', c0', c1', c2', Int.toNat_natCast]
    refine ⟨?_, ?_⟩
    · intro q1 hq1; dsimp only at hq1
      simp (disch := omega) only [go_sem, ↓reduceIte, Int.toNat_natCast]
      intro q2 hq2; dsimp only at hq2
      simp (disch := omega) only [go_sem, ↓reduceIte, Int.toNat_natCast]
      intro q3 hq3; dsimp only at hq3
      obtain ⟨m1', m2', hq2'⟩ := upd_eq_none.1 hq2
      obtain ⟨m3', m4', hq3a⟩ := upd_eq_none.1 hq3
      obtain ⟨m5', m6', hq3'⟩ := upd_eq_none.1 hq3a
      simp (disch := omega) only [go_sem, ↓reduceIte, Int.toNat_natCast]
      refine ⟨q3, q2, q1, rfl, ?_, ?_, ?_, (((Sub.refl X0).new hq1 _).new hq2 _).new hq3 _, hq3', hq2', hq1, ?_, ?_, ?_⟩ <;> simp [wC, dI, *]
    · intro q1 hq1; dsimp only at hq1
      simp (disch := omega) only [go_sem, ↓reduceIte, Int.toNat_natCast]
      intro q2 hq2; dsimp only at hq2
      simp (disch := omega) only [go_sem, ↓reduceIte, Int.toNat_natCast]
      intro q3 hq3; dsimp only at hq3
      obtain ⟨m1', m2', hq2'⟩ := upd_eq_none.1 hq2
      obtain ⟨m3', m4', hq3a⟩ := upd_eq_none.1 hq3
      obtain ⟨m5', m6', hq3'⟩ := upd_eq_none.1 hq3a
      simp (disch := omega) only [go_sem, ↓reduceIte, Int.toNat_natCast]
      refine ⟨q3, q1, q2, rfl, ?_, ?_, ?_, (((Sub.refl X0).new hq1 _).new hq2 _).new hq3 _, hq3', hq1, hq2', ?_, ?_, ?_⟩ <;> simp [wC, dI, *]
  · rintro _ ⟨env, X1⟩ ⟨rfl, e0, e2, e3, e5, e9, e10, r, rh, rs, e11, gr, grh, grs, s1, nr, nrh, nrs, n1, n2, n3⟩
    dsimp only at e0 e2 e3 e5 e9 e10 e11 gr grh grs s1
    obtain ⟨nils, hnils⟩ : ∃ l, l = List.replicate 32 DVal.nilSlice := ⟨_, rfl⟩
    have hnl : nils.length = 32 := by rw [hnils]; simp
    rw [← hnils] at gr
    obtain ⟨H2, hH2⟩ : ∃ K, K = upd X1 r none := ⟨_, rfl⟩
    have s2 : Sub X0 H2 := by rw [hH2]; exact s1.up nr _
    have r2 : H2 r = none := by rw [hH2]; exact upd_same _ _ _
    have rh2 : H2 rh = some (.cells (List.replicate n .nilSlice) 27) := by rw [hH2, upd_ne _ _ _ _ (Ne.symm n2)]; exact grh
    have rs2 : H2 rs = some (.cells (List.replicate n (dI 0)) 3) := by rw [hH2, upd_ne _ _ _ _ (Ne.symm n3)]; exact grs
    have s21 : Sub H2 X1 := by rw [hH2]; exact sub_off _ _
    have hnb : (bases.take n).length = n := by rw [List.length_take]; omega
    have hnb' : n ≤ bases.length := by omega
    simp (disch := omega) only [go_sem, ↓reduceIte, e0, e2, e3, e5, e9, e10, e11, dBy8, Int.toNat_natCast, hnb']
    obtain ⟨I, hI⟩ : ∃ I : Nat → (Nat → DVal) → DHeap → Prop, ∀ j env heap, I j env heap ↔ (env 0 = dBy8 bases ∧ env 2 = dBy8 more ∧ env 3 = dSc script ∧ env 5 = .optr r5 0 ∧ env 9 = dI n ∧ env 10 = dI m ∧ env 11 = .optr r 0 ∧ env 64 = .vslice ((bases.map (DVal.int .u8)).take n) n ∧ env 65 = dI n ∧ env 66 = dI j ∧ j ≤ n ∧ Sub H2 heap ∧ ∃ vb, heap r = some (.cells (wC vb (.oslice 1 rh 0 n n) (.oslice 1 rs 0 n n) .nilSlice .nilSlice .nilSlice nils) 32) ∧ Lst H2 heap 3 1 j ((List.range j).map fun t => dI (baseF bases t)) vb) := ⟨_, fun _ _ _ => Iff.rfl⟩
    refine DLoop.run I (fun j => n - j) 0 ((hI _ _ _).2 ?_) ?_
    · simp (disch := omega) only [go_sem, ↓reduceIte, e0, e2, e3, e5, e9, e10, e11, dBy8, dSc]
      (repeat' apply And.intro) <;> (try first | rfl | assumption | omega)
      exact ⟨_, gr, .inl ⟨rfl, rfl, rfl⟩⟩
    · intro j env heap hj
      obtain ⟨e0, e2, e3, e5, e9, e10, e11, e64, e65, e66, hjn, hs2, vb, gr, hvb⟩ := (hI _ _ _).1 hj
      by_cases hlt : j < n
      · have hlt' : (j : Int) < (n : Int) := by omega
        have hjb : j < bases.length := by omega
        have hget : ((bases.map (DVal.int .u8)).take n)[j]? = some (.int .u8 bases[j]) := by rw [List.getElem?_take_of_lt hlt, List.getElem?_map, List.getElem?_eq_getElem hjb]; rfl
        have hbj := hb _ (List.getElem_mem hjb)
        have hbf : baseF bases j = bases[j].tmod 8 := by rw [baseF, List.getD_eq_getElem?_getD, List.getElem?_eq_getElem hjb]; rfl
        have htm : 0 ≤ bases[j].tmod 8 ∧ bases[j].tmod 8 < 8 := by rw [Int.tmod_eq_emod_of_nonneg (by omega)]; omega
        have hw8 : IntKind.u8.wrap (bases[j].tmod 8) = baseF bases j := by rw [IntKind.wrap_u8, hbf]; omega
        have hw64 : IntKind.i64.wrap (baseF bases j) = baseF bases j := by rw [IntKind.wrap_i64, hbf]; omega
        have hwj : IntKind.i64.wrap ((j : Int) + 1) = ((j + 1 : Nat) : Int) := by rw [IntKind.wrap_i64]; omega
        have hwl := wC_len (vb := vb) (vh := .oslice 1 rh 0 n n) (vs := .oslice 1 rs 0 n n) (vc := .nilSlice) (vo := .nilSlice) (vm := .nilSlice) hnl
        have htl : ((bases.map (DVal.int .u8)).take n).length = n := by rw [List.length_take, List.length_map]; omega
        obtain ⟨o1, o2⟩ := hvb.one
        simp (disch := omega) only [go_sem, ↓reduceIte, e0, e2, e3, e5, e9, e10, e11, e64, e65, e66, hlt', hget, htl, gr, hwl, wC_0, hw8, hw64, Int.toNat_natCast]
        intro q hq; dsimp only at hq
        have nq : r ≠ q := none_ne hq gr
        simp (disch := omega) only [go_sem, ↓reduceIte, e0, e2, e3, e5, e9, e10, e11, e64, e65, e66, hlt', hget, htl, gr, hwl, wC_0, hw8, hw64, nq, Int.toNat_natCast]
        have hvb' : Lst H2 (upd heap q (some (.cells [dI (bases[j].tmod 8)] 3))) 3 1 j ((List.range j).map fun t => dI (baseF bases t)) vb := hvb.keep fun b hb => keepU hb (none_ne hq hb)
        obtain ⟨B, hB1, hB2, hB3, hB4⟩ := hvb'.own (hs2.new hq _)
        refine OwnJ.append (bytes := 8) (m := 1) hB1 rfl (by show (j + 1) * 8 ≤ _; omega) fun v2 X2 hv2 => ?_
        have gr2 := hv2.sub _ _ (hB4 r _ (keepU gr nq) (by simp))
        obtain ⟨c1, c2⟩ := hv2.cell1
        simp (disch := omega) only [go_sem, ↓reduceIte, e0, e2, e3, e5, e9, e10, e11, e64, e65, e66, gr2, hwl, c1, c2, wC_p0]
        refine ⟨j + 1, _, GhostS.refl _, (hI _ _ _).2 ?_, by omega⟩
        simp (disch := omega) only [go_sem, ↓reduceIte, e0, e2, e3, e5, e9, e10, e11, e64, e65, e66, hwj]
        (repeat' apply And.intro) <;> (try first | rfl | assumption | omega)
        · exact (hB2.trans hv2.sub).up r2 _
        · refine ⟨v2, rfl, ?_⟩
          rw [List.map_append, List.map_singleton, hbf]
          have hL := Lst.of hv2 hB2
          refine hL.keep fun b hb => ?_
          rw [upd_ne _ _ _ _ (fun e => by rw [e, gr2] at hb; simp at hb)]; exact hb
      · have hjn' : j = n := by omega
        subst hjn'
        have hlt' : ¬ (j : Int) < (j : Int) := by omega
        simp (disch := omega) only [go_sem, ↓reduceIte, e0, e2, e3, e5, e9, e10, e11, e64, e65, e66, hlt', Int.toNat_natCast]
        rcases hvb with ⟨h, _⟩ | ⟨qb, hqb, hqbl, rfl, gqb⟩
        · exact absurd h c0
        -- the list of base priorities lies still from here on
        obtain ⟨H3, hH3⟩ : ∃ K, K = upd H2 qb (some (.cells ((List.range j).map fun t => dI (baseF bases t)) 3)) := ⟨_, rfl⟩
        have nqb : r ≠ qb := fun e => by rw [← e, gr] at gqb; simp at gqb
        have r3 : H3 r = none := by rw [hH3, upd_ne _ _ _ _ nqb]; exact r2
        have s23 : Sub H2 H3 := by rw [hH3]; exact (Sub.refl H2).new hqb _
        have s3 : Sub H3 heap := by
          rw [hH3]
          intro b o hbo
          simp only [upd] at hbo
          split at hbo
          · rename_i e; rw [e, ← hbo]; exact gqb
          · exact hs2 b o hbo
        have qb3 : H3 qb = some (.cells ((List.range j).map fun t => dI (baseF bases t)) 3) := by rw [hH3]; exact upd_same _ _ _
        have rh3 := s23 _ _ rh2
        have rs3 := s23 _ _ rs2
        have g53 := s23 _ _ (s2 _ _ g5)
        obtain ⟨J, hJ⟩ : ∃ J : Nat → (Nat → DVal) → DHeap → Prop, ∀ o env heap, J o env heap ↔ (env 2 = dBy8 more ∧ env 3 = dSc script ∧ env 5 = .optr r5 0 ∧ env 9 = dI j ∧ env 10 = dI m ∧ env 11 = .optr r 0 ∧ env 14 = .func (.func 5) [] [.optr r5 0] ∧ env 84 = dI m ∧ env 85 = dI o ∧ o ≤ m ∧ SetUp H3 r rh rs qb j nils bases users more o heap) := ⟨_, fun _ _ _ => Iff.rfl⟩
        refine DLoop.run J (fun o => m - o) 0 ((hJ _ _ _).2 ?_) ?_
        · simp (disch := omega) only [go_sem, ↓reduceIte, e0, e2, e3, e5, e9, e10, e11]
          (repeat' apply And.intro) <;> (try first | rfl | assumption | omega)
          exact ⟨H3, fun _ => 0, .nilSlice, .nilSlice, .nilSlice, Sub.refl _, s3, r3, gr, .inl ⟨rfl, rfl, rfl⟩, .inl ⟨rfl, rfl, rfl⟩, .inl ⟨rfl, rfl, rfl⟩, fun x hx => absurd hx (by omega), List.nodup_nil⟩
        · intro o env heap ho
          obtain ⟨e2, e3, e5, e9, e10, e11, e14, e84, e85, hom, hset⟩ := (hJ _ _ _).1 ho
          by_cases hlt : o < m
          · have hlt' : (o : Int) < (m : Int) := by omega
            have hom2 : o < more.length := by omega
            have hou : o < users.length := by omega
            have hget : (more.map (DVal.int .u8))[o]? = some (.int .u8 more[o]) := by rw [List.getElem?_map, List.getElem?_eq_getElem hom2]; rfl
            have hbit : (@HAnd.hAnd (BitVec 8) (BitVec 8) (BitVec 8) (@instHAndOfAndOp (BitVec IntKind.u8.bits) (@BitVec.instAndOp IntKind.u8.bits)) (BitVec.ofInt 8 (more[o].fdiv (2 ^ min 4 8))) (BitVec.ofInt 8 1)).toNat = bit1 more[o] := rfl
            have hen : 2 * bit1 more[o] = entF more o := by rw [entF, List.getD_eq_getElem?_getD, List.getElem?_eq_getElem hom2]; rfl
            have hew := entF_wrap more[o]
            rw [hen] at hew
            obtain ⟨en, hen2⟩ : ∃ en, en = entF more o := ⟨_, rfl⟩
            have hen3 := newL_ent more o
            have hen4 := entF_two more o
            rw [← hen2] at hew hen3 hen4
            simp (disch := omega) only [go_sem, ↓reduceIte, e2, e3, e5, e9, e10, e11, e14, e84, e85, hlt', dBy8, hget, Int.toNat_natCast, hbit, hew]
            refine (lnew_spec G (en : Int) heap).mono ?_
            rintro _ K ⟨rfl, hK⟩
            rw [hK, hen3]
            simp (disch := omega) only [go_sem, ↓reduceIte, dR1, dPS, e2, e3, e5, e9, e10, e11, e14, e84, e85]
            intro r17 h17; dsimp only at h17
            have hrl : (List.replicate en ([] : List Int)).length = en := List.length_replicate
            simp (disch := omega) only [go_sem, ↓reduceIte, dR1, dPS, e2, e3, e5, e9, e10, e11, e14, e84, e85, hrl]
            obtain ⟨Hb, rr, vc, vo, vm, b1, b2, b3, gW, Lc, Lo, Lm, hrr, hnd⟩ := hset
            obtain ⟨X, hX⟩ : ∃ X, X = upd heap r17 (some (.cells [.bool false, .int .i64 0, .vslice ((List.replicate en ([] : List Int)).map dIs) en] 36)) := ⟨_, rfl⟩
            have n17 : r ≠ r17 := none_ne h17 gW
            obtain ⟨Hb2, hHb2⟩ : ∃ K, K = upd Hb r17 (some (.cells [.bool false, .int .i64 0, .vslice ((List.replicate en ([] : List Int)).map dIs) en] 36)) := ⟨_, rfl⟩
            have b4 : Sub Hb2 X := by rw [hX, hHb2]; exact b2.both _ _
            have b5 : Sub H3 Hb2 := by rw [hHb2]; exact b1.new (b2.lo h17) _
            have b6 : Hb2 r = none := by rw [hHb2, upd_ne _ _ _ _ n17]; exact b3
            have hrr2 : ∀ x, x < o → Hb2 (rr x) = some (.cells (List.replicate (entF more x) (dIs [])) 27) ∧ H3 (rr x) = none := fun x hx => by
              have h3 := hrr x hx
              rw [hHb2, upd_ne _ _ _ _ (fun e' => by rw [e', b2.lo h17] at h3; cases h3.1)]; exact h3
            have g17b : Hb2 r17 = some (.cells [.bool false, .int .i64 0, .vslice ((List.replicate en ([] : List Int)).map dIs) en] 36) := by rw [hHb2]; exact upd_same _ _ _
            have gW' : X r = some (.cells (wC (.oslice 1 qb 0 j j) (.oslice 1 rh 0 j j) (.oslice 1 rs 0 j j) vc vo vm nils) 32) := by rw [hX]; exact keepU gW n17
            have gqb := b4 _ _ (b5 _ _ qb3)
            have g5X : X r5 = some (.cells [dBy8 users] 22) := b4 _ _ (b5 _ _ g53)
            have hqbl' : ((List.range j).map fun t => dI (baseF bases t)).length = j := by simp
            have hwl := wC_len (vb := .oslice 1 qb 0 j j) (vh := .oslice 1 rh 0 j j) (vs := .oslice 1 rs 0 j j) (vc := vc) (vo := vo) (vm := vm) hnl
            have Lc1 := Lc.base17 h17 (some (.cells [.bool false, .int .i64 0, .vslice ((List.replicate en ([] : List Int)).map dIs) en] 36))
            rw [← hX, ← hHb2] at Lc1
            have Lo1 := Lo.base17 h17 (some (.cells [.bool false, .int .i64 0, .vslice ((List.replicate en ([] : List Int)).map dIs) en] 36))
            rw [← hX, ← hHb2] at Lo1
            have Lm1 := Lm.base17 h17 (some (.cells [.bool false, .int .i64 0, .vslice ((List.replicate en ([] : List Int)).map dIs) en] 36))
            rw [← hX, ← hHb2] at Lm1
            rw [← hX]
            obtain ⟨L, hL⟩ : ∃ L : Nat → (Nat → DVal) → DHeap → Prop, ∀ k env heap, L k env heap ↔ (env 2 = dBy8 more ∧ env 3 = dSc script ∧ env 5 = .optr r5 0 ∧ env 9 = dI j ∧ env 10 = dI m ∧ env 11 = .optr r 0 ∧ env 14 = .func (.func 5) [] [.optr r5 0] ∧ env 84 = dI m ∧ env 85 = dI o ∧ env 15 = dI o ∧ env 16 = dI en ∧ env 17 = .optr r17 0 ∧ env 19 = dI (topF bases users o k) ∧ env 110 = dI j ∧ env 111 = dI k ∧ k ≤ j ∧ heap = X) := ⟨_, fun _ _ _ => Iff.rfl⟩
            refine DLoop.run L (fun k => j - k) 0 ((hL _ _ _).2 ?_) ?_
            · simp (disch := omega) only [go_sem, ↓reduceIte, e2, e3, e5, e9, e10, e11, e14, e84, e85]
              (repeat' apply And.intro) <;> (try first | rfl | assumption | omega)
            · intro k env heap hk
              obtain ⟨e2, e3, e5, e9, e10, e11, e14, e84, e85, e15, e16, e17, e19, e110, e111, hkj, rfl⟩ := (hL _ _ _).1 hk
              by_cases hlk : k < j
              · have hlk' : (k : Int) < (j : Int) := by omega
                have hwk : IntKind.i64.wrap ((k : Int) + 1) = ((k + 1 : Nat) : Int) := by rw [IntKind.wrap_i64]; omega
                have hus := uses_spec G users hu (t := k) (o := o) (r5 := r5) (by omega) hou heap g5X
                have hbg := dI_map_get (baseF bases) hlk
                simp (disch := omega) only [go_sem, ↓reduceIte, e2, e3, e5, e9, e10, e11, e14, e84, e85, e15, e16, e17, e19, e110, e111, hlk']
                refine hus.mono ?_
                rintro _ K ⟨rfl, hK⟩
                rw [hK]
                cases hub : usesB users k o with
                | true =>
                  simp (disch := omega) only [go_sem, ↓reduceIte, e2, e3, e5, e9, e10, e11, e14, e84, e85, e15, e16, e17, e19, e110, e111, gW', hwl, wC_0, gqb, hbg, hqbl', Int.toNat_natCast]
                  refine ⟨k + 1, _, GhostS.refl _, (hL _ _ _).2 ?_, by omega⟩
                  simp (disch := omega) only [go_sem, ↓reduceIte, e2, e3, e5, e9, e10, e11, e14, e84, e85, e15, e16, e17, e19, e110, e111, hwk]
                  refine ⟨?_, rfl⟩
                  rw [topF, if_pos hub]
                  show DVal.int _ _ = DVal.int _ _
                  congr 1
                  split <;> omega
                | false =>
                  simp (disch := omega) only [go_sem, ↓reduceIte, e2, e3, e5, e9, e10, e11, e14, e84, e85, e15, e16, e17, e19, e110, e111]
                  refine ⟨k + 1, _, GhostS.refl _, (hL _ _ _).2 ?_, by omega⟩
                  simp (disch := omega) only [go_sem, ↓reduceIte, e2, e3, e5, e9, e10, e11, e14, e84, e85, e15, e16, e17, e19, e110, e111, hwk]
                  (repeat' apply And.intro) <;> (try first | rfl | assumption | omega)
                  rw [topF, if_neg (by rw [hub]; simp)]
              · have hkj' : k = j := by omega
                subst hkj'
                have hlk' : ¬ (k : Int) < (k : Int) := by omega
                have hov : (more.map (DVal.int .u8)).length = more.length := List.length_map _
                have htm : 0 ≤ more[o].tmod 3 ∧ more[o].tmod 3 < 3 := by
                  have := hmo _ (List.getElem_mem hom2)
                  rw [Int.tmod_eq_emod_of_nonneg (by omega)]; omega
                have hw8 : IntKind.u8.wrap (more[o].tmod 3) = more[o].tmod 3 := by rw [IntKind.wrap_u8]; omega
                have hw64 : IntKind.i64.wrap (more[o].tmod 3) = more[o].tmod 3 := by rw [IntKind.wrap_i64]; omega
                have htp := topF_rng bases users o hb k
                have hcw : IntKind.i64.wrap (topF bases users o k + more[o].tmod 3) = ceilF bases users more k o := by
                  rw [IntKind.wrap_i64, ceilF, List.getD_eq_getElem?_getD, List.getElem?_eq_getElem hom2]
                  show _ = topF bases users o k + more[o].tmod 3
                  omega
                have g17 := b4 _ _ g17b
                have hz0 : (0 : Int) ≤ (en : Int) := by omega
                have hz1 : (en : Int) ≤ (en : Int) := by omega
                have hz2 : (en : Int) * ((24 : Nat) : Int) ≤ 35184372088832 := by omega
                have hz3 : (en : Int) < 9223372036854775808 := by omega
                have hz4 : ((en : Nat) : Int).toNat = en := Int.toNat_natCast en
                have hbs := And.intro b5 (And.intro b6 (And.intro (fun x (hx : x < o) => hrr2 x hx) hnd))
                have hn29 := hen2
                have hd8 : List.drop 3 (repl 1 [DVal.bool false, DVal.int .i64 0, DVal.nilSlice]) = [] := rfl
                simp (disch := omega) only [go_sem, ↓reduceIte, e2, e3, e5, e9, e10, e11, e14, e84, e85, e15, e16, e17, e19, e110, e111, hlk']
                refine dwp_cut (fun e s' => e = .normal ∧ s'.env 2 = dBy8 more ∧ s'.env 3 = dSc script ∧ s'.env 5 = .optr r5 0 ∧ s'.env 9 = dI k ∧ s'.env 10 = dI m ∧ s'.env 11 = .optr r 0 ∧ s'.env 14 = .func (.func 5) [] [.optr r5 0] ∧ s'.env 84 = dI m ∧ s'.env 85 = dI o ∧ SetUp1 H3 r rh rs qb k nils bases users more o s'.heap) ?_ ?_
                · refine dwp_draws (by kernel_rfl) (.take 0 (.take 1 (.take 2 (.take 3 (.take 4 (.take 5 (.take 6 (.take 7 (.take 10 (.take 11 (.take 12 (.take 13 (.take 14 (.take 15 (.take 16 (.take 17 (.take 18 (.take 19 (.take 20 (.take 21 (.take 24 (.take 25 (.take 26 (.take 27 (.take 28 (.alt (.go 22 [27, 13, 7, 6] (.alt (.go 29 [27, 20, 18, 13, 7, 6] (.alt (.go 30 [27, 20, 18, 13, 7, 6] (.go 8 [27, 20, 18, 13, 6] (.go 9 [27, 20, 18, 13] (.go 23 [27] (.go 31 [] (.take 32 (.take 33 (.go 34 [] (.take 35 (.take 36 (.go 37 [] (.take 38 (.take 39 (.go 40 [] .done)))))))))))))) (.go 8 [27, 20, 18, 13, 6] (.alt (.go 30 [27, 20, 18, 13, 7, 6] (.go 9 [27, 20, 18, 13] (.go 23 [27] (.go 31 [] (.take 32 (.take 33 (.go 34 [] (.take 35 (.take 36 (.go 37 [] (.take 38 (.take 39 (.go 40 [] .done))))))))))))) (.go 9 [27, 20, 18, 13] (.alt (.go 30 [27, 20, 18, 13, 7, 6] (.go 23 [27] (.go 31 [] (.take 32 (.take 33 (.go 34 [] (.take 35 (.take 36 (.go 37 [] (.take 38 (.take 39 (.go 40 [] .done)))))))))))) (.go 23 [27] (.go 30 [27, 20, 18, 13, 7, 6] (.go 31 [] (.take 32 (.take 33 (.go 34 [] (.take 35 (.take 36 (.go 37 [] (.take 38 (.take 39 (.go 40 [] .done)))))))))))))))))) (.go 8 [27, 20, 18, 13, 6] (.alt (.go 29 [27, 20, 18, 13, 7, 6] (.alt (.go 30 [27, 20, 18, 13, 7, 6] (.go 9 [27, 20, 18, 13] (.go 23 [27] (.go 31 [] (.take 32 (.take 33 (.go 34 [] (.take 35 (.take 36 (.go 37 [] (.take 38 (.take 39 (.go 40 [] .done))))))))))))) (.go 9 [27, 20, 18, 13] (.alt (.go 30 [27, 20, 18, 13, 7, 6] (.go 23 [27] (.go 31 [] (.take 32 (.take 33 (.go 34 [] (.take 35 (.take 36 (.go 37 [] (.take 38 (.take 39 (.go 40 [] .done)))))))))))) (.go 23 [27] (.go 30 [27, 20, 18, 13, 7, 6] (.go 31 [] (.take 32 (.take 33 (.go 34 [] (.take 35 (.take 36 (.go 37 [] (.take 38 (.take 39 (.go 40 [] .done)))))))))))))))) (.go 9 [27, 20, 18, 13] (.alt (.go 29 [27, 20, 18, 13, 7, 6] (.alt (.go 30 [27, 20, 18, 13, 7, 6] (.go 23 [27] (.go 31 [] (.take 32 (.take 33 (.go 34 [] (.take 35 (.take 36 (.go 37 [] (.take 38 (.take 39 (.go 40 [] .done)))))))))))) (.go 23 [27] (.go 30 [27, 20, 18, 13, 7, 6] (.go 31 [] (.take 32 (.take 33 (.go 34 [] (.take 35 (.take 36 (.go 37 [] (.take 38 (.take 39 (.go 40 [] .done)))))))))))))) (.go 23 [27] (.go 29 [27, 20, 18, 13, 7, 6] (.go 30 [27, 20, 18, 13, 7, 6] (.go 31 [] (.take 32 (.take 33 (.go 34 [] (.take 35 (.take 36 (.go 37 [] (.take 38 (.take 39 (.go 40 [] .done))))))))))))))))))) (.alt (.go 29 [27, 20, 18, 13, 7, 6] (.alt (.go 22 [27, 13, 7, 6] (.alt (.go 30 [27, 20, 18, 13, 7, 6] (.go 8 [27, 20, 18, 13, 6] (.go 9 [27, 20, 18, 13] (.go 23 [27] (.go 31 [] (.take 32 (.take 33 (.go 34 [] (.take 35 (.take 36 (.go 37 [] (.take 38 (.take 39 (.go 40 [] .done)))))))))))))) (.go 8 [27, 20, 18, 13, 6] (.alt (.go 30 [27, 20, 18, 13, 7, 6] (.go 9 [27, 20, 18, 13] (.go 23 [27] (.go 31 [] (.take 32 (.take 33 (.go 34 [] (.take 35 (.take 36 (.go 37 [] (.take 38 (.take 39 (.go 40 [] .done))))))))))))) (.go 9 [27, 20, 18, 13] (.alt (.go 30 [27, 20, 18, 13, 7, 6] (.go 23 [27] (.go 31 [] (.take 32 (.take 33 (.go 34 [] (.take 35 (.take 36 (.go 37 [] (.take 38 (.take 39 (.go 40 [] .done)))))))))))) (.go 23 [27] (.go 30 [27, 20, 18, 13, 7, 6] (.go 31 [] (.take 32 (.take 33 (.go 34 [] (.take 35 (.take 36 (.go 37 [] (.take 38 (.take 39 (.go 40 [] .done)))))))))))))))))) (.alt (.go 30 [27, 20, 18, 13, 7, 6] (.alt (.go 22 [27, 13, 7, 6] (.go 8 [27, 20, 18, 13, 6] (.go 9 [27, 20, 18, 13] (.go 23 [27] (.go 31 [] (.take 32 (.take 33 (.go 34 [] (.take 35 (.take 36 (.go 37 [] (.take 38 (.take 39 (.go 40 [] .done)))))))))))))) (.go 8 [27, 20, 18, 13, 6] (.alt (.go 22 [27, 13, 7, 6] (.go 9 [27, 20, 18, 13] (.go 23 [27] (.go 31 [] (.take 32 (.take 33 (.go 34 [] (.take 35 (.take 36 (.go 37 [] (.take 38 (.take 39 (.go 40 [] .done))))))))))))) (.go 9 [27, 20, 18, 13] (.go 22 [27, 13, 7, 6] (.go 23 [27] (.go 31 [] (.take 32 (.take 33 (.go 34 [] (.take 35 (.take 36 (.go 37 [] (.take 38 (.take 39 (.go 40 [] .done))))))))))))))))) (.go 8 [27, 20, 18, 13, 6] (.alt (.go 22 [27, 13, 7, 6] (.alt (.go 30 [27, 20, 18, 13, 7, 6] (.go 9 [27, 20, 18, 13] (.go 23 [27] (.go 31 [] (.take 32 (.take 33 (.go 34 [] (.take 35 (.take 36 (.go 37 [] (.take 38 (.take 39 (.go 40 [] .done))))))))))))) (.go 9 [27, 20, 18, 13] (.alt (.go 30 [27, 20, 18, 13, 7, 6] (.go 23 [27] (.go 31 [] (.take 32 (.take 33 (.go 34 [] (.take 35 (.take 36 (.go 37 [] (.take 38 (.take 39 (.go 40 [] .done)))))))))))) (.go 23 [27] (.go 30 [27, 20, 18, 13, 7, 6] (.go 31 [] (.take 32 (.take 33 (.go 34 [] (.take 35 (.take 36 (.go 37 [] (.take 38 (.take 39 (.go 40 [] .done)))))))))))))))) (.alt (.go 30 [27, 20, 18, 13, 7, 6] (.alt (.go 22 [27, 13, 7, 6] (.go 9 [27, 20, 18, 13] (.go 23 [27] (.go 31 [] (.take 32 (.take 33 (.go 34 [] (.take 35 (.take 36 (.go 37 [] (.take 38 (.take 39 (.go 40 [] .done))))))))))))) (.go 9 [27, 20, 18, 13] (.go 22 [27, 13, 7, 6] (.go 23 [27] (.go 31 [] (.take 32 (.take 33 (.go 34 [] (.take 35 (.take 36 (.go 37 [] (.take 38 (.take 39 (.go 40 [] .done))))))))))))))) (.go 9 [27, 20, 18, 13] (.alt (.go 30 [27, 20, 18, 13, 7, 6] (.go 22 [27, 13, 7, 6] (.go 23 [27] (.go 31 [] (.take 32 (.take 33 (.go 34 [] (.take 35 (.take 36 (.go 37 [] (.take 38 (.take 39 (.go 40 [] .done))))))))))))) (.go 22 [27, 13, 7, 6] (.alt (.go 30 [27, 20, 18, 13, 7, 6] (.go 23 [27] (.go 31 [] (.take 32 (.take 33 (.go 34 [] (.take 35 (.take 36 (.go 37 [] (.take 38 (.take 39 (.go 40 [] .done)))))))))))) (.go 23 [27] (.go 30 [27, 20, 18, 13, 7, 6] (.go 31 [] (.take 32 (.take 33 (.go 34 [] (.take 35 (.take 36 (.go 37 [] (.take 38 (.take 39 (.go 40 [] .done)))))))))))))))))))))) (.go 8 [27, 20, 18, 13, 6] (.alt (.go 22 [27, 13, 7, 6] (.alt (.go 29 [27, 20, 18, 13, 7, 6] (.alt (.go 30 [27, 20, 18, 13, 7, 6] (.go 9 [27, 20, 18, 13] (.go 23 [27] (.go 31 [] (.take 32 (.take 33 (.go 34 [] (.take 35 (.take 36 (.go 37 [] (.take 38 (.take 39 (.go 40 [] .done))))))))))))) (.go 9 [27, 20, 18, 13] (.alt (.go 30 [27, 20, 18, 13, 7, 6] (.go 23 [27] (.go 31 [] (.take 32 (.take 33 (.go 34 [] (.take 35 (.take 36 (.go 37 [] (.take 38 (.take 39 (.go 40 [] .done)))))))))))) (.go 23 [27] (.go 30 [27, 20, 18, 13, 7, 6] (.go 31 [] (.take 32 (.take 33 (.go 34 [] (.take 35 (.take 36 (.go 37 [] (.take 38 (.take 39 (.go 40 [] .done)))))))))))))))) (.go 9 [27, 20, 18, 13] (.alt (.go 29 [27, 20, 18, 13, 7, 6] (.alt (.go 30 [27, 20, 18, 13, 7, 6] (.go 23 [27] (.go 31 [] (.take 32 (.take 33 (.go 34 [] (.take 35 (.take 36 (.go 37 [] (.take 38 (.take 39 (.go 40 [] .done)))))))))))) (.go 23 [27] (.go 30 [27, 20, 18, 13, 7, 6] (.go 31 [] (.take 32 (.take 33 (.go 34 [] (.take 35 (.take 36 (.go 37 [] (.take 38 (.take 39 (.go 40 [] .done)))))))))))))) (.go 23 [27] (.go 29 [27, 20, 18, 13, 7, 6] (.go 30 [27, 20, 18, 13, 7, 6] (.go 31 [] (.take 32 (.take 33 (.go 34 [] (.take 35 (.take 36 (.go 37 [] (.take 38 (.take 39 (.go 40 [] .done))))))))))))))))) (.alt (.go 29 [27, 20, 18, 13, 7, 6] (.alt (.go 22 [27, 13, 7, 6] (.alt (.go 30 [27, 20, 18, 13, 7, 6] (.go 9 [27, 20, 18, 13] (.go 23 [27] (.go 31 [] (.take 32 (.take 33 (.go 34 [] (.take 35 (.take 36 (.go 37 [] (.take 38 (.take 39 (.go 40 [] .done))))))))))))) (.go 9 [27, 20, 18, 13] (.alt (.go 30 [27, 20, 18, 13, 7, 6] (.go 23 [27] (.go 31 [] (.take 32 (.take 33 (.go 34 [] (.take 35 (.take 36 (.go 37 [] (.take 38 (.take 39 (.go 40 [] .done)))))))))))) (.go 23 [27] (.go 30 [27, 20, 18, 13, 7, 6] (.go 31 [] (.take 32 (.take 33 (.go 34 [] (.take 35 (.take 36 (.go 37 [] (.take 38 (.take 39 (.go 40 [] .done)))))))))))))))) (.alt (.go 30 [27, 20, 18, 13, 7, 6] (.alt (.go 22 [27, 13, 7, 6] (.go 9 [27, 20, 18, 13] (.go 23 [27] (.go 31 [] (.take 32 (.take 33 (.go 34 [] (.take 35 (.take 36 (.go 37 [] (.take 38 (.take 39 (.go 40 [] .done))))))))))))) (.go 9 [27, 20, 18, 13] (.go 22 [27, 13, 7, 6] (.go 23 [27] (.go 31 [] (.take 32 (.take 33 (.go 34 [] (.take 35 (.take 36 (.go 37 [] (.take 38 (.take 39 (.go 40 [] .done))))))))))))))) (.go 9 [27, 20, 18, 13] (.alt (.go 30 [27, 20, 18, 13, 7, 6] (.go 22 [27, 13, 7, 6] (.go 23 [27] (.go 31 [] (.take 32 (.take 33 (.go 34 [] (.take 35 (.take 36 (.go 37 [] (.take 38 (.take 39 (.go 40 [] .done))))))))))))) (.go 22 [27, 13, 7, 6] (.alt (.go 30 [27, 20, 18, 13, 7, 6] (.go 23 [27] (.go 31 [] (.take 32 (.take 33 (.go 34 [] (.take 35 (.take 36 (.go 37 [] (.take 38 (.take 39 (.go 40 [] .done)))))))))))) (.go 23 [27] (.go 30 [27, 20, 18, 13, 7, 6] (.go 31 [] (.take 32 (.take 33 (.go 34 [] (.take 35 (.take 36 (.go 37 [] (.take 38 (.take 39 (.go 40 [] .done))))))))))))))))))) (.go 9 [27, 20, 18, 13] (.alt (.go 29 [27, 20, 18, 13, 7, 6] (.alt (.go 30 [27, 20, 18, 13, 7, 6] (.go 22 [27, 13, 7, 6] (.go 23 [27] (.go 31 [] (.take 32 (.take 33 (.go 34 [] (.take 35 (.take 36 (.go 37 [] (.take 38 (.take 39 (.go 40 [] .done))))))))))))) (.go 22 [27, 13, 7, 6] (.alt (.go 30 [27, 20, 18, 13, 7, 6] (.go 23 [27] (.go 31 [] (.take 32 (.take 33 (.go 34 [] (.take 35 (.take 36 (.go 37 [] (.take 38 (.take 39 (.go 40 [] .done)))))))))))) (.go 23 [27] (.go 30 [27, 20, 18, 13, 7, 6] (.go 31 [] (.take 32 (.take 33 (.go 34 [] (.take 35 (.take 36 (.go 37 [] (.take 38 (.take 39 (.go 40 [] .done)))))))))))))))) (.go 22 [27, 13, 7, 6] (.alt (.go 29 [27, 20, 18, 13, 7, 6] (.alt (.go 30 [27, 20, 18, 13, 7, 6] (.go 23 [27] (.go 31 [] (.take 32 (.take 33 (.go 34 [] (.take 35 (.take 36 (.go 37 [] (.take 38 (.take 39 (.go 40 [] .done)))))))))))) (.go 23 [27] (.go 30 [27, 20, 18, 13, 7, 6] (.go 31 [] (.take 32 (.take 33 (.go 34 [] (.take 35 (.take 36 (.go 37 [] (.take 38 (.take 39 (.go 40 [] .done)))))))))))))) (.go 23 [27] (.go 29 [27, 20, 18, 13, 7, 6] (.go 30 [27, 20, 18, 13, 7, 6] (.go 31 [] (.take 32 (.take 33 (.go 34 [] (.take 35 (.take 36 (.go 37 [] (.take 38 (.take 39 (.go 40 [] .done))))))))))))))))))))))))))))))))))))))))))))))) (by kernel_rfl) ?_
                  simp (disch := omega) only [go_sem, ↓reduceIte, e2, e3, e5, e9, e10, e11, e14, e84, e85, e15, e16, e17, e19, e110, e111, g17, gW', hwl, wC_0, wC_35 hnl, wC_36 hnl, wC_37 hnl, hget, hov, hw8, hw64, hcw, dBy8, Int.toNat_natCast, hd8]
                  --TREE25
                  have E0 := And.intro (wC_all hnl) <| And.intro e2 <| And.intro e3 <| And.intro e5 <| And.intro e9 <| And.intro e10 <| And.intro e11 <| And.intro e14 <| And.intro e84 <| And.intro e85 <| And.intro e15 <| And.intro e16 <| And.intro e17 <| And.intro e19 <| And.intro e110 <| And.intro e111 <| And.intro hwl <| And.intro hget <| And.intro hov <| And.intro hw8 <| And.intro hw64 <| And.intro hcw <| And.intro gW' <| And.intro g17 <| And.intro hd8 <| And.intro hz0 <| And.intro hz1 <| And.intro hz2 <| And.intro hz3 hz4
                  refine ⟨?_, ?_⟩
                  ·
                   intro q1 hq1; dsimp only at hq1
                   obtain ⟨Y1, hY1⟩ : ∃ Y, Y = upd heap q1 (some (.cells [.int .i64 (ceilF bases users more k o)] 3)) := ⟨_, rfl⟩
                   rw [← hY1]
                   have k1 := kU hY1 hq1
                   have gW1 := k1 _ _ gW'
                   have b1 := Sub.trans b4 k1
                   have Lc1 := Lc1.keep fun b => k1 b _
                   have Lo1 := Lo1.keep fun b => k1 b _
                   have Lm1 := Lm1.keep fun b => k1 b _
                   have p1_22 := (congrFun hY1 q1).trans (upd_same _ _ _)
                   have E1 := And.intro E0 (And.intro (b1 _ _ g17b) gW1)
                   simp (disch := first | assumption | decide) only [go_sem, ↓reduceIte, dBy8, Int.toNat_natCast, KeepK, E1, p1_22]
                   refine ⟨?_, ?_⟩
                   ·
                    intro q2 hq2; dsimp only at hq2
                    obtain ⟨Y2, hY2⟩ : ∃ Y, Y = upd Y1 q2 (some (.cells (List.replicate en .nilSlice) 27)) := ⟨_, rfl⟩
                    rw [← hY2]
                    have k2 := kU hY2 hq2
                    have gW2 := k2 _ _ gW1
                    have b2 := Sub.trans b1 k2
                    have Lc2 := Lc1.keep fun b => k2 b _
                    have Lo2 := Lo1.keep fun b => k2 b _
                    have Lm2 := Lm1.keep fun b => k2 b _
                    have p2_22 := k2 _ _ p1_22
                    have p2_29 := (congrFun hY2 q2).trans (upd_same _ _ _)
                    have E2 := And.intro E1 (And.intro (b2 _ _ g17b) gW2)
                    simp (disch := first | assumption | decide) only [go_sem, ↓reduceIte, dBy8, Int.toNat_natCast, KeepK, E2, p2_22, p2_29]
                    refine ⟨?_, ?_⟩
                    ·
                     intro q3 hq3; dsimp only at hq3
                     obtain ⟨Y3, hY3⟩ : ∃ Y, Y = upd Y2 q3 (some (.cells [.oslice 1 q2 0 en en] 26)) := ⟨_, rfl⟩
                     rw [← hY3]
                     have k3 := kU hY3 hq3
                     have gW3 := k3 _ _ gW2
                     have b3 := Sub.trans b2 k3
                     have Lc3 := Lc2.keep fun b => k3 b _
                     have Lo3 := Lo2.keep fun b => k3 b _
                     have Lm3 := Lm2.keep fun b => k3 b _
                     have p3_22 := k3 _ _ p2_22
                     have p3_29 := k3 _ _ p2_29
                     have p3_30 := (congrFun hY3 q3).trans (upd_same _ _ _)
                     have E3 := And.intro E2 (And.intro (b3 _ _ g17b) gW3)
                     simp (disch := first | assumption | decide) only [go_sem, ↓reduceIte, dBy8, Int.toNat_natCast, KeepK, E3, p3_22, p3_29, p3_30]
                     intro q4 hq4; dsimp only at hq4
                     obtain ⟨Y4, hY4⟩ : ∃ Y, Y = upd Y3 q4 (some (.cells [.bool false, .int .i64 0, .vslice ((List.replicate en ([] : List Int)).map dIs) en] 36)) := ⟨_, rfl⟩
                     rw [← hY4]
                     have k4 := kU hY4 hq4
                     have gW4 := k4 _ _ gW3
                     have b4 := Sub.trans b3 k4
                     have Lc4 := Lc3.keep fun b => k4 b _
                     have Lo4 := Lo3.keep fun b => k4 b _
                     have Lm4 := Lm3.keep fun b => k4 b _
                     have p4_22 := k4 _ _ p3_22
                     have p4_29 := k4 _ _ p3_29
                     have p4_30 := k4 _ _ p3_30
                     have p4_8 := (congrFun hY4 q4).trans (upd_same _ _ _)
                     have E4 := And.intro E3 (And.intro (b4 _ _ g17b) gW4)
                     simp (disch := first | assumption | decide) only [go_sem, ↓reduceIte, dBy8, Int.toNat_natCast, KeepK, E4, p4_22, p4_29, p4_30, p4_8]
                     obtain ⟨B5, Ba5, Bb5, Bc5, Bd5⟩ := Lo4.own b4
                     refine OwnJ.append (m := 1) Ba5 rfl ?_ fun v5 Y5 hv5 => ?_
                     · omega
                     have k5 := kA hv5 Bd5
                     have gW5 := k5 r _ gW4 (by simp)
                     have b5 := Sub.trans Bb5 hv5.sub
                     have Lc5 := Lc4.keep fun b hb => k5 b _ hb (by simp)
                     have Lo5 := Lst.of hv5 Bb5
                     have Lm5 := Lm4.keep fun b hb => k5 b _ hb (by simp)
                     have p5_22 := k5 _ _ p4_22 (by simp)
                     have p5_29 := k5 _ _ p4_29 (by simp)
                     have p5_30 := k5 _ _ p4_30 (by simp)
                     have E5 := And.intro E4 (And.intro (b5 _ _ g17b) (And.intro gW5 hv5.cell1))
                     simp (disch := first | assumption | decide) only [go_sem, ↓reduceIte, dBy8, Int.toNat_natCast, KeepK, E5, p5_22, p5_29, p5_30]
                     obtain ⟨B6, Ba6, Bb6, Bc6, Bd6⟩ := Lc5.own b5
                     refine OwnJ.append (m := 1) Ba6 rfl ?_ fun v6 Y6 hv6 => ?_
                     · omega
                     have k6 := kA hv6 Bd6
                     have gW6 := k6 r _ gW5 (by simp)
                     have b6 := Sub.trans Bb6 hv6.sub
                     have Lc6 := Lst.of hv6 Bb6
                     have Lo6 := Lo5.keep fun b hb => k6 b _ hb (by simp)
                     have Lm6 := Lm5.keep fun b hb => k6 b _ hb (by simp)
                     have p6_29 := k6 _ _ p5_29 (by simp)
                     have p6_30 := k6 _ _ p5_30 (by simp)
                     have E6 := And.intro E5 (And.intro (b6 _ _ g17b) (And.intro gW6 hv6.cell1))
                     simp (disch := first | assumption | decide) only [go_sem, ↓reduceIte, dBy8, Int.toNat_natCast, KeepK, E6, p6_29, p6_30]
                     obtain ⟨B7, Ba7, Bb7, Bc7, Bd7⟩ := Lm6.own b6
                     refine OwnJ.append (m := 1) Ba7 rfl ?_ fun v7 Y7 hv7 => ?_
                     · omega
                     have k7 := kA hv7 Bd7
                     have gW7 := k7 r _ gW6 (by simp)
                     have b7 := Sub.trans Bb7 hv7.sub
                     have Lc7 := Lc6.keep fun b hb => k7 b _ hb (by simp)
                     have Lo7 := Lo6.keep fun b hb => k7 b _ hb (by simp)
                     have Lm7 := Lst.of hv7 Bb7
                     have p7_29 := k7 _ _ p6_29 (by simp)
                     have E7 := And.intro E6 (And.intro (b7 _ _ g17b) (And.intro gW7 hv7.cell1))
                     simp (disch := first | assumption | decide) only [go_sem, ↓reduceIte, dBy8, Int.toNat_natCast, KeepK, E7, p7_29]
                     exact ⟨by rw [wC_len hnl]; omega, by rw [wC_len hnl]; omega, SetUp.step hbs hn29 gW7 b7 Lc7 Lo7 Lm7 p7_29 (Sub.lo b1 hq2)⟩
                    ·
                     intro q11 hq11; dsimp only at hq11
                     obtain ⟨Y11, hY11⟩ : ∃ Y, Y = upd Y2 q11 (some (.cells [.bool false, .int .i64 0, .vslice ((List.replicate en ([] : List Int)).map dIs) en] 36)) := ⟨_, rfl⟩
                     rw [← hY11]
                     have k11 := kU hY11 hq11
                     have gW11 := k11 _ _ gW2
                     have b11 := Sub.trans b2 k11
                     have Lc11 := Lc2.keep fun b => k11 b _
                     have Lo11 := Lo2.keep fun b => k11 b _
                     have Lm11 := Lm2.keep fun b => k11 b _
                     have p11_22 := k11 _ _ p2_22
                     have p11_29 := k11 _ _ p2_29
                     have p11_8 := (congrFun hY11 q11).trans (upd_same _ _ _)
                     have E11 := And.intro E2 (And.intro (b11 _ _ g17b) gW11)
                     simp (disch := first | assumption | decide) only [go_sem, ↓reduceIte, dBy8, Int.toNat_natCast, KeepK, E11, p11_22, p11_29, p11_8]
                     refine ⟨?_, ?_⟩
                     ·
                      intro q12 hq12; dsimp only at hq12
                      obtain ⟨Y12, hY12⟩ : ∃ Y, Y = upd Y11 q12 (some (.cells [.oslice 1 q2 0 en en] 26)) := ⟨_, rfl⟩
                      rw [← hY12]
                      have k12 := kU hY12 hq12
                      have gW12 := k12 _ _ gW11
                      have b12 := Sub.trans b11 k12
                      have Lc12 := Lc11.keep fun b => k12 b _
                      have Lo12 := Lo11.keep fun b => k12 b _
                      have Lm12 := Lm11.keep fun b => k12 b _
                      have p12_22 := k12 _ _ p11_22
                      have p12_29 := k12 _ _ p11_29
                      have p12_8 := k12 _ _ p11_8
                      have p12_30 := (congrFun hY12 q12).trans (upd_same _ _ _)
                      have E12 := And.intro E11 (And.intro (b12 _ _ g17b) gW12)
                      simp (disch := first | assumption | decide) only [go_sem, ↓reduceIte, dBy8, Int.toNat_natCast, KeepK, E12, p12_22, p12_29, p12_8, p12_30]
                      obtain ⟨B13, Ba13, Bb13, Bc13, Bd13⟩ := Lo12.own b12
                      refine OwnJ.append (m := 1) Ba13 rfl ?_ fun v13 Y13 hv13 => ?_
                      · omega
                      have k13 := kA hv13 Bd13
                      have gW13 := k13 r _ gW12 (by simp)
                      have b13 := Sub.trans Bb13 hv13.sub
                      have Lc13 := Lc12.keep fun b hb => k13 b _ hb (by simp)
                      have Lo13 := Lst.of hv13 Bb13
                      have Lm13 := Lm12.keep fun b hb => k13 b _ hb (by simp)
                      have p13_22 := k13 _ _ p12_22 (by simp)
                      have p13_29 := k13 _ _ p12_29 (by simp)
                      have p13_30 := k13 _ _ p12_30 (by simp)
                      have E13 := And.intro E12 (And.intro (b13 _ _ g17b) (And.intro gW13 hv13.cell1))
                      simp (disch := first | assumption | decide) only [go_sem, ↓reduceIte, dBy8, Int.toNat_natCast, KeepK, E13, p13_22, p13_29, p13_30]
                      obtain ⟨B14, Ba14, Bb14, Bc14, Bd14⟩ := Lc13.own b13
                      refine OwnJ.append (m := 1) Ba14 rfl ?_ fun v14 Y14 hv14 => ?_
                      · omega
                      have k14 := kA hv14 Bd14
                      have gW14 := k14 r _ gW13 (by simp)
                      have b14 := Sub.trans Bb14 hv14.sub
                      have Lc14 := Lst.of hv14 Bb14
                      have Lo14 := Lo13.keep fun b hb => k14 b _ hb (by simp)
                      have Lm14 := Lm13.keep fun b hb => k14 b _ hb (by simp)
                      have p14_29 := k14 _ _ p13_29 (by simp)
                      have p14_30 := k14 _ _ p13_30 (by simp)
                      have E14 := And.intro E13 (And.intro (b14 _ _ g17b) (And.intro gW14 hv14.cell1))
                      simp (disch := first | assumption | decide) only [go_sem, ↓reduceIte, dBy8, Int.toNat_natCast, KeepK, E14, p14_29, p14_30]
                      obtain ⟨B15, Ba15, Bb15, Bc15, Bd15⟩ := Lm14.own b14
                      refine OwnJ.append (m := 1) Ba15 rfl ?_ fun v15 Y15 hv15 => ?_
                      · omega
                      have k15 := kA hv15 Bd15
                      have gW15 := k15 r _ gW14 (by simp)
                      have b15 := Sub.trans Bb15 hv15.sub
                      have Lc15 := Lc14.keep fun b hb => k15 b _ hb (by simp)
                      have Lo15 := Lo14.keep fun b hb => k15 b _ hb (by simp)
                      have Lm15 := Lst.of hv15 Bb15
                      have p15_29 := k15 _ _ p14_29 (by simp)
                      have E15 := And.intro E14 (And.intro (b15 _ _ g17b) (And.intro gW15 hv15.cell1))
                      simp (disch := first | assumption | decide) only [go_sem, ↓reduceIte, dBy8, Int.toNat_natCast, KeepK, E15, p15_29]
                      exact ⟨by rw [wC_len hnl]; omega, by rw [wC_len hnl]; omega, SetUp.step hbs hn29 gW15 b15 Lc15 Lo15 Lm15 p15_29 (Sub.lo b1 hq2)⟩
                     ·
                      obtain ⟨B19, Ba19, Bb19, Bc19, Bd19⟩ := Lo11.own b11
                      refine OwnJ.append (m := 1) Ba19 rfl ?_ fun v19 Y19 hv19 => ?_
                      · omega
                      have k19 := kA hv19 Bd19
                      have gW19 := k19 r _ gW11 (by simp)
                      have b19 := Sub.trans Bb19 hv19.sub
                      have Lc19 := Lc11.keep fun b hb => k19 b _ hb (by simp)
                      have Lo19 := Lst.of hv19 Bb19
                      have Lm19 := Lm11.keep fun b hb => k19 b _ hb (by simp)
                      have p19_22 := k19 _ _ p11_22 (by simp)
                      have p19_29 := k19 _ _ p11_29 (by simp)
                      have E19 := And.intro E11 (And.intro (b19 _ _ g17b) (And.intro gW19 hv19.cell1))
                      simp (disch := first | assumption | decide) only [go_sem, ↓reduceIte, dBy8, Int.toNat_natCast, KeepK, E19, p19_22, p19_29]
                      refine ⟨?_, ?_⟩
                      ·
                       intro q20 hq20; dsimp only at hq20
                       obtain ⟨Y20, hY20⟩ : ∃ Y, Y = upd Y19 q20 (some (.cells [.oslice 1 q2 0 en en] 26)) := ⟨_, rfl⟩
                       rw [← hY20]
                       have k20 := kU hY20 hq20
                       have gW20 := k20 _ _ gW19
                       have b20 := Sub.trans b19 k20
                       have Lc20 := Lc19.keep fun b => k20 b _
                       have Lo20 := Lo19.keep fun b => k20 b _
                       have Lm20 := Lm19.keep fun b => k20 b _
                       have p20_22 := k20 _ _ p19_22
                       have p20_29 := k20 _ _ p19_29
                       have p20_30 := (congrFun hY20 q20).trans (upd_same _ _ _)
                       have E20 := And.intro E19 (And.intro (b20 _ _ g17b) gW20)
                       simp (disch := first | assumption | decide) only [go_sem, ↓reduceIte, dBy8, Int.toNat_natCast, KeepK, E20, p20_22, p20_29, p20_30]
                       obtain ⟨B21, Ba21, Bb21, Bc21, Bd21⟩ := Lc20.own b20
                       refine OwnJ.append (m := 1) Ba21 rfl ?_ fun v21 Y21 hv21 => ?_
                       · omega
                       have k21 := kA hv21 Bd21
                       have gW21 := k21 r _ gW20 (by simp)
                       have b21 := Sub.trans Bb21 hv21.sub
                       have Lc21 := Lst.of hv21 Bb21
                       have Lo21 := Lo20.keep fun b hb => k21 b _ hb (by simp)
                       have Lm21 := Lm20.keep fun b hb => k21 b _ hb (by simp)
                       have p21_29 := k21 _ _ p20_29 (by simp)
                       have p21_30 := k21 _ _ p20_30 (by simp)
                       have E21 := And.intro E20 (And.intro (b21 _ _ g17b) (And.intro gW21 hv21.cell1))
                       simp (disch := first | assumption | decide) only [go_sem, ↓reduceIte, dBy8, Int.toNat_natCast, KeepK, E21, p21_29, p21_30]
                       obtain ⟨B22, Ba22, Bb22, Bc22, Bd22⟩ := Lm21.own b21
                       refine OwnJ.append (m := 1) Ba22 rfl ?_ fun v22 Y22 hv22 => ?_
                       · omega
                       have k22 := kA hv22 Bd22
                       have gW22 := k22 r _ gW21 (by simp)
                       have b22 := Sub.trans Bb22 hv22.sub
                       have Lc22 := Lc21.keep fun b hb => k22 b _ hb (by simp)
                       have Lo22 := Lo21.keep fun b hb => k22 b _ hb (by simp)
                       have Lm22 := Lst.of hv22 Bb22
                       have p22_29 := k22 _ _ p21_29 (by simp)
                       have E22 := And.intro E21 (And.intro (b22 _ _ g17b) (And.intro gW22 hv22.cell1))
                       simp (disch := first | assumption | decide) only [go_sem, ↓reduceIte, dBy8, Int.toNat_natCast, KeepK, E22, p22_29]
                       exact ⟨by rw [wC_len hnl]; omega, by rw [wC_len hnl]; omega, SetUp.step hbs hn29 gW22 b22 Lc22 Lo22 Lm22 p22_29 (Sub.lo b1 hq2)⟩
                      ·
                       obtain ⟨B26, Ba26, Bb26, Bc26, Bd26⟩ := Lc19.own b19
                       refine OwnJ.append (m := 1) Ba26 rfl ?_ fun v26 Y26 hv26 => ?_
                       · omega
                       have k26 := kA hv26 Bd26
                       have gW26 := k26 r _ gW19 (by simp)
                       have b26 := Sub.trans Bb26 hv26.sub
                       have Lc26 := Lst.of hv26 Bb26
                       have Lo26 := Lo19.keep fun b hb => k26 b _ hb (by simp)
                       have Lm26 := Lm19.keep fun b hb => k26 b _ hb (by simp)
                       have p26_29 := k26 _ _ p19_29 (by simp)
                       have E26 := And.intro E19 (And.intro (b26 _ _ g17b) (And.intro gW26 hv26.cell1))
                       simp (disch := first | assumption | decide) only [go_sem, ↓reduceIte, dBy8, Int.toNat_natCast, KeepK, E26, p26_29]
                       intro q27 hq27; dsimp only at hq27
                       obtain ⟨Y27, hY27⟩ : ∃ Y, Y = upd Y26 q27 (some (.cells [.oslice 1 q2 0 en en] 26)) := ⟨_, rfl⟩
                       rw [← hY27]
                       have k27 := kU hY27 hq27
                       have gW27 := k27 _ _ gW26
                       have b27 := Sub.trans b26 k27
                       have Lc27 := Lc26.keep fun b => k27 b _
                       have Lo27 := Lo26.keep fun b => k27 b _
                       have Lm27 := Lm26.keep fun b => k27 b _
                       have p27_29 := k27 _ _ p26_29
                       have p27_30 := (congrFun hY27 q27).trans (upd_same _ _ _)
                       have E27 := And.intro E26 (And.intro (b27 _ _ g17b) gW27)
                       simp (disch := first | assumption | decide) only [go_sem, ↓reduceIte, dBy8, Int.toNat_natCast, KeepK, E27, p27_29, p27_30]
                       obtain ⟨B28, Ba28, Bb28, Bc28, Bd28⟩ := Lm27.own b27
                       refine OwnJ.append (m := 1) Ba28 rfl ?_ fun v28 Y28 hv28 => ?_
                       · omega
                       have k28 := kA hv28 Bd28
                       have gW28 := k28 r _ gW27 (by simp)
                       have b28 := Sub.trans Bb28 hv28.sub
                       have Lc28 := Lc27.keep fun b hb => k28 b _ hb (by simp)
                       have Lo28 := Lo27.keep fun b hb => k28 b _ hb (by simp)
                       have Lm28 := Lst.of hv28 Bb28
                       have p28_29 := k28 _ _ p27_29 (by simp)
                       have E28 := And.intro E27 (And.intro (b28 _ _ g17b) (And.intro gW28 hv28.cell1))
                       simp (disch := first | assumption | decide) only [go_sem, ↓reduceIte, dBy8, Int.toNat_natCast, KeepK, E28, p28_29]
                       exact ⟨by rw [wC_len hnl]; omega, by rw [wC_len hnl]; omega, SetUp.step hbs hn29 gW28 b28 Lc28 Lo28 Lm28 p28_29 (Sub.lo b1 hq2)⟩
                   ·
                    intro q32 hq32; dsimp only at hq32
                    obtain ⟨Y32, hY32⟩ : ∃ Y, Y = upd Y1 q32 (some (.cells [.bool false, .int .i64 0, .vslice ((List.replicate en ([] : List Int)).map dIs) en] 36)) := ⟨_, rfl⟩
                    rw [← hY32]
                    have k32 := kU hY32 hq32
                    have gW32 := k32 _ _ gW1
                    have b32 := Sub.trans b1 k32
                    have Lc32 := Lc1.keep fun b => k32 b _
                    have Lo32 := Lo1.keep fun b => k32 b _
                    have Lm32 := Lm1.keep fun b => k32 b _
                    have p32_22 := k32 _ _ p1_22
                    have p32_8 := (congrFun hY32 q32).trans (upd_same _ _ _)
                    have E32 := And.intro E1 (And.intro (b32 _ _ g17b) gW32)
                    simp (disch := first | assumption | decide) only [go_sem, ↓reduceIte, dBy8, Int.toNat_natCast, KeepK, E32, p32_22, p32_8]
                    refine ⟨?_, ?_⟩
                    ·
                     intro q33 hq33; dsimp only at hq33
                     obtain ⟨Y33, hY33⟩ : ∃ Y, Y = upd Y32 q33 (some (.cells (List.replicate en .nilSlice) 27)) := ⟨_, rfl⟩
                     rw [← hY33]
                     have k33 := kU hY33 hq33
                     have gW33 := k33 _ _ gW32
                     have b33 := Sub.trans b32 k33
                     have Lc33 := Lc32.keep fun b => k33 b _
                     have Lo33 := Lo32.keep fun b => k33 b _
                     have Lm33 := Lm32.keep fun b => k33 b _
                     have p33_22 := k33 _ _ p32_22
                     have p33_8 := k33 _ _ p32_8
                     have p33_29 := (congrFun hY33 q33).trans (upd_same _ _ _)
                     have E33 := And.intro E32 (And.intro (b33 _ _ g17b) gW33)
                     simp (disch := first | assumption | decide) only [go_sem, ↓reduceIte, dBy8, Int.toNat_natCast, KeepK, E33, p33_22, p33_8, p33_29]
                     refine ⟨?_, ?_⟩
                     ·
                      intro q34 hq34; dsimp only at hq34
                      obtain ⟨Y34, hY34⟩ : ∃ Y, Y = upd Y33 q34 (some (.cells [.oslice 1 q33 0 en en] 26)) := ⟨_, rfl⟩
                      rw [← hY34]
                      have k34 := kU hY34 hq34
                      have gW34 := k34 _ _ gW33
                      have b34 := Sub.trans b33 k34
                      have Lc34 := Lc33.keep fun b => k34 b _
                      have Lo34 := Lo33.keep fun b => k34 b _
                      have Lm34 := Lm33.keep fun b => k34 b _
                      have p34_22 := k34 _ _ p33_22
                      have p34_8 := k34 _ _ p33_8
                      have p34_29 := k34 _ _ p33_29
                      have p34_30 := (congrFun hY34 q34).trans (upd_same _ _ _)
                      have E34 := And.intro E33 (And.intro (b34 _ _ g17b) gW34)
                      simp (disch := first | assumption | decide) only [go_sem, ↓reduceIte, dBy8, Int.toNat_natCast, KeepK, E34, p34_22, p34_8, p34_29, p34_30]
                      obtain ⟨B35, Ba35, Bb35, Bc35, Bd35⟩ := Lo34.own b34
                      refine OwnJ.append (m := 1) Ba35 rfl ?_ fun v35 Y35 hv35 => ?_
                      · omega
                      have k35 := kA hv35 Bd35
                      have gW35 := k35 r _ gW34 (by simp)
                      have b35 := Sub.trans Bb35 hv35.sub
                      have Lc35 := Lc34.keep fun b hb => k35 b _ hb (by simp)
                      have Lo35 := Lst.of hv35 Bb35
                      have Lm35 := Lm34.keep fun b hb => k35 b _ hb (by simp)
                      have p35_22 := k35 _ _ p34_22 (by simp)
                      have p35_29 := k35 _ _ p34_29 (by simp)
                      have p35_30 := k35 _ _ p34_30 (by simp)
                      have E35 := And.intro E34 (And.intro (b35 _ _ g17b) (And.intro gW35 hv35.cell1))
                      simp (disch := first | assumption | decide) only [go_sem, ↓reduceIte, dBy8, Int.toNat_natCast, KeepK, E35, p35_22, p35_29, p35_30]
                      obtain ⟨B36, Ba36, Bb36, Bc36, Bd36⟩ := Lc35.own b35
                      refine OwnJ.append (m := 1) Ba36 rfl ?_ fun v36 Y36 hv36 => ?_
                      · omega
                      have k36 := kA hv36 Bd36
                      have gW36 := k36 r _ gW35 (by simp)
                      have b36 := Sub.trans Bb36 hv36.sub
                      have Lc36 := Lst.of hv36 Bb36
                      have Lo36 := Lo35.keep fun b hb => k36 b _ hb (by simp)
                      have Lm36 := Lm35.keep fun b hb => k36 b _ hb (by simp)
                      have p36_29 := k36 _ _ p35_29 (by simp)
                      have p36_30 := k36 _ _ p35_30 (by simp)
                      have E36 := And.intro E35 (And.intro (b36 _ _ g17b) (And.intro gW36 hv36.cell1))
                      simp (disch := first | assumption | decide) only [go_sem, ↓reduceIte, dBy8, Int.toNat_natCast, KeepK, E36, p36_29, p36_30]
                      obtain ⟨B37, Ba37, Bb37, Bc37, Bd37⟩ := Lm36.own b36
                      refine OwnJ.append (m := 1) Ba37 rfl ?_ fun v37 Y37 hv37 => ?_
                      · omega
                      have k37 := kA hv37 Bd37
                      have gW37 := k37 r _ gW36 (by simp)
                      have b37 := Sub.trans Bb37 hv37.sub
                      have Lc37 := Lc36.keep fun b hb => k37 b _ hb (by simp)
                      have Lo37 := Lo36.keep fun b hb => k37 b _ hb (by simp)
                      have Lm37 := Lst.of hv37 Bb37
                      have p37_29 := k37 _ _ p36_29 (by simp)
                      have E37 := And.intro E36 (And.intro (b37 _ _ g17b) (And.intro gW37 hv37.cell1))
                      simp (disch := first | assumption | decide) only [go_sem, ↓reduceIte, dBy8, Int.toNat_natCast, KeepK, E37, p37_29]
                      exact ⟨by rw [wC_len hnl]; omega, by rw [wC_len hnl]; omega, SetUp.step hbs hn29 gW37 b37 Lc37 Lo37 Lm37 p37_29 (Sub.lo b32 hq33)⟩
                     ·
                      obtain ⟨B41, Ba41, Bb41, Bc41, Bd41⟩ := Lo33.own b33
                      refine OwnJ.append (m := 1) Ba41 rfl ?_ fun v41 Y41 hv41 => ?_
                      · omega
                      have k41 := kA hv41 Bd41
                      have gW41 := k41 r _ gW33 (by simp)
                      have b41 := Sub.trans Bb41 hv41.sub
                      have Lc41 := Lc33.keep fun b hb => k41 b _ hb (by simp)
                      have Lo41 := Lst.of hv41 Bb41
                      have Lm41 := Lm33.keep fun b hb => k41 b _ hb (by simp)
                      have p41_22 := k41 _ _ p33_22 (by simp)
                      have p41_29 := k41 _ _ p33_29 (by simp)
                      have E41 := And.intro E33 (And.intro (b41 _ _ g17b) (And.intro gW41 hv41.cell1))
                      simp (disch := first | assumption | decide) only [go_sem, ↓reduceIte, dBy8, Int.toNat_natCast, KeepK, E41, p41_22, p41_29]
                      refine ⟨?_, ?_⟩
                      ·
                       intro q42 hq42; dsimp only at hq42
                       obtain ⟨Y42, hY42⟩ : ∃ Y, Y = upd Y41 q42 (some (.cells [.oslice 1 q33 0 en en] 26)) := ⟨_, rfl⟩
                       rw [← hY42]
                       have k42 := kU hY42 hq42
                       have gW42 := k42 _ _ gW41
                       have b42 := Sub.trans b41 k42
                       have Lc42 := Lc41.keep fun b => k42 b _
                       have Lo42 := Lo41.keep fun b => k42 b _
                       have Lm42 := Lm41.keep fun b => k42 b _
                       have p42_22 := k42 _ _ p41_22
                       have p42_29 := k42 _ _ p41_29
                       have p42_30 := (congrFun hY42 q42).trans (upd_same _ _ _)
                       have E42 := And.intro E41 (And.intro (b42 _ _ g17b) gW42)
                       simp (disch := first | assumption | decide) only [go_sem, ↓reduceIte, dBy8, Int.toNat_natCast, KeepK, E42, p42_22, p42_29, p42_30]
                       obtain ⟨B43, Ba43, Bb43, Bc43, Bd43⟩ := Lc42.own b42
                       refine OwnJ.append (m := 1) Ba43 rfl ?_ fun v43 Y43 hv43 => ?_
                       · omega
                       have k43 := kA hv43 Bd43
                       have gW43 := k43 r _ gW42 (by simp)
                       have b43 := Sub.trans Bb43 hv43.sub
                       have Lc43 := Lst.of hv43 Bb43
                       have Lo43 := Lo42.keep fun b hb => k43 b _ hb (by simp)
                       have Lm43 := Lm42.keep fun b hb => k43 b _ hb (by simp)
                       have p43_29 := k43 _ _ p42_29 (by simp)
                       have p43_30 := k43 _ _ p42_30 (by simp)
                       have E43 := And.intro E42 (And.intro (b43 _ _ g17b) (And.intro gW43 hv43.cell1))
                       simp (disch := first | assumption | decide) only [go_sem, ↓reduceIte, dBy8, Int.toNat_natCast, KeepK, E43, p43_29, p43_30]
                       obtain ⟨B44, Ba44, Bb44, Bc44, Bd44⟩ := Lm43.own b43
                       refine OwnJ.append (m := 1) Ba44 rfl ?_ fun v44 Y44 hv44 => ?_
                       · omega
                       have k44 := kA hv44 Bd44
                       have gW44 := k44 r _ gW43 (by simp)
                       have b44 := Sub.trans Bb44 hv44.sub
                       have Lc44 := Lc43.keep fun b hb => k44 b _ hb (by simp)
                       have Lo44 := Lo43.keep fun b hb => k44 b _ hb (by simp)
                       have Lm44 := Lst.of hv44 Bb44
                       have p44_29 := k44 _ _ p43_29 (by simp)
                       have E44 := And.intro E43 (And.intro (b44 _ _ g17b) (And.intro gW44 hv44.cell1))
                       simp (disch := first | assumption | decide) only [go_sem, ↓reduceIte, dBy8, Int.toNat_natCast, KeepK, E44, p44_29]
                       exact ⟨by rw [wC_len hnl]; omega, by rw [wC_len hnl]; omega, SetUp.step hbs hn29 gW44 b44 Lc44 Lo44 Lm44 p44_29 (Sub.lo b32 hq33)⟩
                      ·
                       obtain ⟨B48, Ba48, Bb48, Bc48, Bd48⟩ := Lc41.own b41
                       refine OwnJ.append (m := 1) Ba48 rfl ?_ fun v48 Y48 hv48 => ?_
                       · omega
                       have k48 := kA hv48 Bd48
                       have gW48 := k48 r _ gW41 (by simp)
                       have b48 := Sub.trans Bb48 hv48.sub
                       have Lc48 := Lst.of hv48 Bb48
                       have Lo48 := Lo41.keep fun b hb => k48 b _ hb (by simp)
                       have Lm48 := Lm41.keep fun b hb => k48 b _ hb (by simp)
                       have p48_29 := k48 _ _ p41_29 (by simp)
                       have E48 := And.intro E41 (And.intro (b48 _ _ g17b) (And.intro gW48 hv48.cell1))
                       simp (disch := first | assumption | decide) only [go_sem, ↓reduceIte, dBy8, Int.toNat_natCast, KeepK, E48, p48_29]
                       intro q49 hq49; dsimp only at hq49
                       obtain ⟨Y49, hY49⟩ : ∃ Y, Y = upd Y48 q49 (some (.cells [.oslice 1 q33 0 en en] 26)) := ⟨_, rfl⟩
                       rw [← hY49]
                       have k49 := kU hY49 hq49
                       have gW49 := k49 _ _ gW48
                       have b49 := Sub.trans b48 k49
                       have Lc49 := Lc48.keep fun b => k49 b _
                       have Lo49 := Lo48.keep fun b => k49 b _
                       have Lm49 := Lm48.keep fun b => k49 b _
                       have p49_29 := k49 _ _ p48_29
                       have p49_30 := (congrFun hY49 q49).trans (upd_same _ _ _)
                       have E49 := And.intro E48 (And.intro (b49 _ _ g17b) gW49)
                       simp (disch := first | assumption | decide) only [go_sem, ↓reduceIte, dBy8, Int.toNat_natCast, KeepK, E49, p49_29, p49_30]
                       obtain ⟨B50, Ba50, Bb50, Bc50, Bd50⟩ := Lm49.own b49
                       refine OwnJ.append (m := 1) Ba50 rfl ?_ fun v50 Y50 hv50 => ?_
                       · omega
                       have k50 := kA hv50 Bd50
                       have gW50 := k50 r _ gW49 (by simp)
                       have b50 := Sub.trans Bb50 hv50.sub
                       have Lc50 := Lc49.keep fun b hb => k50 b _ hb (by simp)
                       have Lo50 := Lo49.keep fun b hb => k50 b _ hb (by simp)
                       have Lm50 := Lst.of hv50 Bb50
                       have p50_29 := k50 _ _ p49_29 (by simp)
                       have E50 := And.intro E49 (And.intro (b50 _ _ g17b) (And.intro gW50 hv50.cell1))
                       simp (disch := first | assumption | decide) only [go_sem, ↓reduceIte, dBy8, Int.toNat_natCast, KeepK, E50, p50_29]
                       exact ⟨by rw [wC_len hnl]; omega, by rw [wC_len hnl]; omega, SetUp.step hbs hn29 gW50 b50 Lc50 Lo50 Lm50 p50_29 (Sub.lo b32 hq33)⟩
                    ·
                     obtain ⟨B54, Ba54, Bb54, Bc54, Bd54⟩ := Lo32.own b32
                     refine OwnJ.append (m := 1) Ba54 rfl ?_ fun v54 Y54 hv54 => ?_
                     · omega
                     have k54 := kA hv54 Bd54
                     have gW54 := k54 r _ gW32 (by simp)
                     have b54 := Sub.trans Bb54 hv54.sub
                     have Lc54 := Lc32.keep fun b hb => k54 b _ hb (by simp)
                     have Lo54 := Lst.of hv54 Bb54
                     have Lm54 := Lm32.keep fun b hb => k54 b _ hb (by simp)
                     have p54_22 := k54 _ _ p32_22 (by simp)
                     have E54 := And.intro E32 (And.intro (b54 _ _ g17b) (And.intro gW54 hv54.cell1))
                     simp (disch := first | assumption | decide) only [go_sem, ↓reduceIte, dBy8, Int.toNat_natCast, KeepK, E54, p54_22]
                     refine ⟨?_, ?_⟩
                     ·
                      intro q55 hq55; dsimp only at hq55
                      obtain ⟨Y55, hY55⟩ : ∃ Y, Y = upd Y54 q55 (some (.cells (List.replicate en .nilSlice) 27)) := ⟨_, rfl⟩
                      rw [← hY55]
                      have k55 := kU hY55 hq55
                      have gW55 := k55 _ _ gW54
                      have b55 := Sub.trans b54 k55
                      have Lc55 := Lc54.keep fun b => k55 b _
                      have Lo55 := Lo54.keep fun b => k55 b _
                      have Lm55 := Lm54.keep fun b => k55 b _
                      have p55_22 := k55 _ _ p54_22
                      have p55_29 := (congrFun hY55 q55).trans (upd_same _ _ _)
                      have E55 := And.intro E54 (And.intro (b55 _ _ g17b) gW55)
                      simp (disch := first | assumption | decide) only [go_sem, ↓reduceIte, dBy8, Int.toNat_natCast, KeepK, E55, p55_22, p55_29]
                      refine ⟨?_, ?_⟩
                      ·
                       intro q56 hq56; dsimp only at hq56
                       obtain ⟨Y56, hY56⟩ : ∃ Y, Y = upd Y55 q56 (some (.cells [.oslice 1 q55 0 en en] 26)) := ⟨_, rfl⟩
                       rw [← hY56]
                       have k56 := kU hY56 hq56
                       have gW56 := k56 _ _ gW55
                       have b56 := Sub.trans b55 k56
                       have Lc56 := Lc55.keep fun b => k56 b _
                       have Lo56 := Lo55.keep fun b => k56 b _
                       have Lm56 := Lm55.keep fun b => k56 b _
                       have p56_22 := k56 _ _ p55_22
                       have p56_29 := k56 _ _ p55_29
                       have p56_30 := (congrFun hY56 q56).trans (upd_same _ _ _)
                       have E56 := And.intro E55 (And.intro (b56 _ _ g17b) gW56)
                       simp (disch := first | assumption | decide) only [go_sem, ↓reduceIte, dBy8, Int.toNat_natCast, KeepK, E56, p56_22, p56_29, p56_30]
                       obtain ⟨B57, Ba57, Bb57, Bc57, Bd57⟩ := Lc56.own b56
                       refine OwnJ.append (m := 1) Ba57 rfl ?_ fun v57 Y57 hv57 => ?_
                       · omega
                       have k57 := kA hv57 Bd57
                       have gW57 := k57 r _ gW56 (by simp)
                       have b57 := Sub.trans Bb57 hv57.sub
                       have Lc57 := Lst.of hv57 Bb57
                       have Lo57 := Lo56.keep fun b hb => k57 b _ hb (by simp)
                       have Lm57 := Lm56.keep fun b hb => k57 b _ hb (by simp)
                       have p57_29 := k57 _ _ p56_29 (by simp)
                       have p57_30 := k57 _ _ p56_30 (by simp)
                       have E57 := And.intro E56 (And.intro (b57 _ _ g17b) (And.intro gW57 hv57.cell1))
                       simp (disch := first | assumption | decide) only [go_sem, ↓reduceIte, dBy8, Int.toNat_natCast, KeepK, E57, p57_29, p57_30]
                       obtain ⟨B58, Ba58, Bb58, Bc58, Bd58⟩ := Lm57.own b57
                       refine OwnJ.append (m := 1) Ba58 rfl ?_ fun v58 Y58 hv58 => ?_
                       · omega
                       have k58 := kA hv58 Bd58
                       have gW58 := k58 r _ gW57 (by simp)
                       have b58 := Sub.trans Bb58 hv58.sub
                       have Lc58 := Lc57.keep fun b hb => k58 b _ hb (by simp)
                       have Lo58 := Lo57.keep fun b hb => k58 b _ hb (by simp)
                       have Lm58 := Lst.of hv58 Bb58
                       have p58_29 := k58 _ _ p57_29 (by simp)
                       have E58 := And.intro E57 (And.intro (b58 _ _ g17b) (And.intro gW58 hv58.cell1))
                       simp (disch := first | assumption | decide) only [go_sem, ↓reduceIte, dBy8, Int.toNat_natCast, KeepK, E58, p58_29]
                       exact ⟨by rw [wC_len hnl]; omega, by rw [wC_len hnl]; omega, SetUp.step hbs hn29 gW58 b58 Lc58 Lo58 Lm58 p58_29 (Sub.lo b54 hq55)⟩
                      ·
                       obtain ⟨B62, Ba62, Bb62, Bc62, Bd62⟩ := Lc55.own b55
                       refine OwnJ.append (m := 1) Ba62 rfl ?_ fun v62 Y62 hv62 => ?_
                       · omega
                       have k62 := kA hv62 Bd62
                       have gW62 := k62 r _ gW55 (by simp)
                       have b62 := Sub.trans Bb62 hv62.sub
                       have Lc62 := Lst.of hv62 Bb62
                       have Lo62 := Lo55.keep fun b hb => k62 b _ hb (by simp)
                       have Lm62 := Lm55.keep fun b hb => k62 b _ hb (by simp)
                       have p62_29 := k62 _ _ p55_29 (by simp)
                       have E62 := And.intro E55 (And.intro (b62 _ _ g17b) (And.intro gW62 hv62.cell1))
                       simp (disch := first | assumption | decide) only [go_sem, ↓reduceIte, dBy8, Int.toNat_natCast, KeepK, E62, p62_29]
                       intro q63 hq63; dsimp only at hq63
                       obtain ⟨Y63, hY63⟩ : ∃ Y, Y = upd Y62 q63 (some (.cells [.oslice 1 q55 0 en en] 26)) := ⟨_, rfl⟩
                       rw [← hY63]
                       have k63 := kU hY63 hq63
                       have gW63 := k63 _ _ gW62
                       have b63 := Sub.trans b62 k63
                       have Lc63 := Lc62.keep fun b => k63 b _
                       have Lo63 := Lo62.keep fun b => k63 b _
                       have Lm63 := Lm62.keep fun b => k63 b _
                       have p63_29 := k63 _ _ p62_29
                       have p63_30 := (congrFun hY63 q63).trans (upd_same _ _ _)
                       have E63 := And.intro E62 (And.intro (b63 _ _ g17b) gW63)
                       simp (disch := first | assumption | decide) only [go_sem, ↓reduceIte, dBy8, Int.toNat_natCast, KeepK, E63, p63_29, p63_30]
                       obtain ⟨B64, Ba64, Bb64, Bc64, Bd64⟩ := Lm63.own b63
                       refine OwnJ.append (m := 1) Ba64 rfl ?_ fun v64 Y64 hv64 => ?_
                       · omega
                       have k64 := kA hv64 Bd64
                       have gW64 := k64 r _ gW63 (by simp)
                       have b64 := Sub.trans Bb64 hv64.sub
                       have Lc64 := Lc63.keep fun b hb => k64 b _ hb (by simp)
                       have Lo64 := Lo63.keep fun b hb => k64 b _ hb (by simp)
                       have Lm64 := Lst.of hv64 Bb64
                       have p64_29 := k64 _ _ p63_29 (by simp)
                       have E64 := And.intro E63 (And.intro (b64 _ _ g17b) (And.intro gW64 hv64.cell1))
                       simp (disch := first | assumption | decide) only [go_sem, ↓reduceIte, dBy8, Int.toNat_natCast, KeepK, E64, p64_29]
                       exact ⟨by rw [wC_len hnl]; omega, by rw [wC_len hnl]; omega, SetUp.step hbs hn29 gW64 b64 Lc64 Lo64 Lm64 p64_29 (Sub.lo b54 hq55)⟩
                     ·
                      obtain ⟨B68, Ba68, Bb68, Bc68, Bd68⟩ := Lc54.own b54
                      refine OwnJ.append (m := 1) Ba68 rfl ?_ fun v68 Y68 hv68 => ?_
                      · omega
                      have k68 := kA hv68 Bd68
                      have gW68 := k68 r _ gW54 (by simp)
                      have b68 := Sub.trans Bb68 hv68.sub
                      have Lc68 := Lst.of hv68 Bb68
                      have Lo68 := Lo54.keep fun b hb => k68 b _ hb (by simp)
                      have Lm68 := Lm54.keep fun b hb => k68 b _ hb (by simp)
                      have E68 := And.intro E54 (And.intro (b68 _ _ g17b) (And.intro gW68 hv68.cell1))
                      simp (disch := first | assumption | decide) only [go_sem, ↓reduceIte, dBy8, Int.toNat_natCast, KeepK, E68]
                      intro q69 hq69; dsimp only at hq69
                      obtain ⟨Y69, hY69⟩ : ∃ Y, Y = upd Y68 q69 (some (.cells (List.replicate en .nilSlice) 27)) := ⟨_, rfl⟩
                      rw [← hY69]
                      have k69 := kU hY69 hq69
                      have gW69 := k69 _ _ gW68
                      have b69 := Sub.trans b68 k69
                      have Lc69 := Lc68.keep fun b => k69 b _
                      have Lo69 := Lo68.keep fun b => k69 b _
                      have Lm69 := Lm68.keep fun b => k69 b _
                      have p69_29 := (congrFun hY69 q69).trans (upd_same _ _ _)
                      have E69 := And.intro E68 (And.intro (b69 _ _ g17b) gW69)
                      simp (disch := first | assumption | decide) only [go_sem, ↓reduceIte, dBy8, Int.toNat_natCast, KeepK, E69, p69_29]
                      intro q70 hq70; dsimp only at hq70
                      obtain ⟨Y70, hY70⟩ : ∃ Y, Y = upd Y69 q70 (some (.cells [.oslice 1 q69 0 en en] 26)) := ⟨_, rfl⟩
                      rw [← hY70]
                      have k70 := kU hY70 hq70
                      have gW70 := k70 _ _ gW69
                      have b70 := Sub.trans b69 k70
                      have Lc70 := Lc69.keep fun b => k70 b _
                      have Lo70 := Lo69.keep fun b => k70 b _
                      have Lm70 := Lm69.keep fun b => k70 b _
                      have p70_29 := k70 _ _ p69_29
                      have p70_30 := (congrFun hY70 q70).trans (upd_same _ _ _)
                      have E70 := And.intro E69 (And.intro (b70 _ _ g17b) gW70)
                      simp (disch := first | assumption | decide) only [go_sem, ↓reduceIte, dBy8, Int.toNat_natCast, KeepK, E70, p70_29, p70_30]
                      obtain ⟨B71, Ba71, Bb71, Bc71, Bd71⟩ := Lm70.own b70
                      refine OwnJ.append (m := 1) Ba71 rfl ?_ fun v71 Y71 hv71 => ?_
                      · omega
                      have k71 := kA hv71 Bd71
                      have gW71 := k71 r _ gW70 (by simp)
                      have b71 := Sub.trans Bb71 hv71.sub
                      have Lc71 := Lc70.keep fun b hb => k71 b _ hb (by simp)
                      have Lo71 := Lo70.keep fun b hb => k71 b _ hb (by simp)
                      have Lm71 := Lst.of hv71 Bb71
                      have p71_29 := k71 _ _ p70_29 (by simp)
                      have E71 := And.intro E70 (And.intro (b71 _ _ g17b) (And.intro gW71 hv71.cell1))
                      simp (disch := first | assumption | decide) only [go_sem, ↓reduceIte, dBy8, Int.toNat_natCast, KeepK, E71, p71_29]
                      exact ⟨by rw [wC_len hnl]; omega, by rw [wC_len hnl]; omega, SetUp.step hbs hn29 gW71 b71 Lc71 Lo71 Lm71 p71_29 (Sub.lo b68 hq69)⟩
                  ·
                   refine ⟨?_, ?_⟩
                   ·
                    intro q75 hq75; dsimp only at hq75
                    obtain ⟨Y75, hY75⟩ : ∃ Y, Y = upd heap q75 (some (.cells (List.replicate en .nilSlice) 27)) := ⟨_, rfl⟩
                    rw [← hY75]
                    have k75 := kU hY75 hq75
                    have gW75 := k75 _ _ gW'
                    have b75 := Sub.trans b4 k75
                    have Lc75 := Lc1.keep fun b => k75 b _
                    have Lo75 := Lo1.keep fun b => k75 b _
                    have Lm75 := Lm1.keep fun b => k75 b _
                    have p75_29 := (congrFun hY75 q75).trans (upd_same _ _ _)
                    have E75 := And.intro E0 (And.intro (b75 _ _ g17b) gW75)
                    simp (disch := first | assumption | decide) only [go_sem, ↓reduceIte, dBy8, Int.toNat_natCast, KeepK, E75, p75_29]
                    refine ⟨?_, ?_⟩
                    ·
                     intro q76 hq76; dsimp only at hq76
                     obtain ⟨Y76, hY76⟩ : ∃ Y, Y = upd Y75 q76 (some (.cells [.int .i64 (ceilF bases users more k o)] 3)) := ⟨_, rfl⟩
                     rw [← hY76]
                     have k76 := kU hY76 hq76
                     have gW76 := k76 _ _ gW75
                     have b76 := Sub.trans b75 k76
                     have Lc76 := Lc75.keep fun b => k76 b _
                     have Lo76 := Lo75.keep fun b => k76 b _
                     have Lm76 := Lm75.keep fun b => k76 b _
                     have p76_29 := k76 _ _ p75_29
                     have p76_22 := (congrFun hY76 q76).trans (upd_same _ _ _)
                     have E76 := And.intro E75 (And.intro (b76 _ _ g17b) gW76)
                     simp (disch := first | assumption | decide) only [go_sem, ↓reduceIte, dBy8, Int.toNat_natCast, KeepK, E76, p76_29, p76_22]
                     refine ⟨?_, ?_⟩
                     ·
                      intro q77 hq77; dsimp only at hq77
                      obtain ⟨Y77, hY77⟩ : ∃ Y, Y = upd Y76 q77 (some (.cells [.oslice 1 q75 0 en en] 26)) := ⟨_, rfl⟩
                      rw [← hY77]
                      have k77 := kU hY77 hq77
                      have gW77 := k77 _ _ gW76
                      have b77 := Sub.trans b76 k77
                      have Lc77 := Lc76.keep fun b => k77 b _
                      have Lo77 := Lo76.keep fun b => k77 b _
                      have Lm77 := Lm76.keep fun b => k77 b _
                      have p77_29 := k77 _ _ p76_29
                      have p77_22 := k77 _ _ p76_22
                      have p77_30 := (congrFun hY77 q77).trans (upd_same _ _ _)
                      have E77 := And.intro E76 (And.intro (b77 _ _ g17b) gW77)
                      simp (disch := first | assumption | decide) only [go_sem, ↓reduceIte, dBy8, Int.toNat_natCast, KeepK, E77, p77_29, p77_22, p77_30]
                      intro q78 hq78; dsimp only at hq78
                      obtain ⟨Y78, hY78⟩ : ∃ Y, Y = upd Y77 q78 (some (.cells [.bool false, .int .i64 0, .vslice ((List.replicate en ([] : List Int)).map dIs) en] 36)) := ⟨_, rfl⟩
                      rw [← hY78]
                      have k78 := kU hY78 hq78
                      have gW78 := k78 _ _ gW77
                      have b78 := Sub.trans b77 k78
                      have Lc78 := Lc77.keep fun b => k78 b _
                      have Lo78 := Lo77.keep fun b => k78 b _
                      have Lm78 := Lm77.keep fun b => k78 b _
                      have p78_29 := k78 _ _ p77_29
                      have p78_22 := k78 _ _ p77_22
                      have p78_30 := k78 _ _ p77_30
                      have p78_8 := (congrFun hY78 q78).trans (upd_same _ _ _)
                      have E78 := And.intro E77 (And.intro (b78 _ _ g17b) gW78)
                      simp (disch := first | assumption | decide) only [go_sem, ↓reduceIte, dBy8, Int.toNat_natCast, KeepK, E78, p78_29, p78_22, p78_30, p78_8]
                      obtain ⟨B79, Ba79, Bb79, Bc79, Bd79⟩ := Lo78.own b78
                      refine OwnJ.append (m := 1) Ba79 rfl ?_ fun v79 Y79 hv79 => ?_
                      · omega
                      have k79 := kA hv79 Bd79
                      have gW79 := k79 r _ gW78 (by simp)
                      have b79 := Sub.trans Bb79 hv79.sub
                      have Lc79 := Lc78.keep fun b hb => k79 b _ hb (by simp)
                      have Lo79 := Lst.of hv79 Bb79
                      have Lm79 := Lm78.keep fun b hb => k79 b _ hb (by simp)
                      have p79_29 := k79 _ _ p78_29 (by simp)
                      have p79_22 := k79 _ _ p78_22 (by simp)
                      have p79_30 := k79 _ _ p78_30 (by simp)
                      have E79 := And.intro E78 (And.intro (b79 _ _ g17b) (And.intro gW79 hv79.cell1))
                      simp (disch := first | assumption | decide) only [go_sem, ↓reduceIte, dBy8, Int.toNat_natCast, KeepK, E79, p79_29, p79_22, p79_30]
                      obtain ⟨B80, Ba80, Bb80, Bc80, Bd80⟩ := Lc79.own b79
                      refine OwnJ.append (m := 1) Ba80 rfl ?_ fun v80 Y80 hv80 => ?_
                      · omega
                      have k80 := kA hv80 Bd80
                      have gW80 := k80 r _ gW79 (by simp)
                      have b80 := Sub.trans Bb80 hv80.sub
                      have Lc80 := Lst.of hv80 Bb80
                      have Lo80 := Lo79.keep fun b hb => k80 b _ hb (by simp)
                      have Lm80 := Lm79.keep fun b hb => k80 b _ hb (by simp)
                      have p80_29 := k80 _ _ p79_29 (by simp)
                      have p80_30 := k80 _ _ p79_30 (by simp)
                      have E80 := And.intro E79 (And.intro (b80 _ _ g17b) (And.intro gW80 hv80.cell1))
                      simp (disch := first | assumption | decide) only [go_sem, ↓reduceIte, dBy8, Int.toNat_natCast, KeepK, E80, p80_29, p80_30]
                      obtain ⟨B81, Ba81, Bb81, Bc81, Bd81⟩ := Lm80.own b80
                      refine OwnJ.append (m := 1) Ba81 rfl ?_ fun v81 Y81 hv81 => ?_
                      · omega
                      have k81 := kA hv81 Bd81
                      have gW81 := k81 r _ gW80 (by simp)
                      have b81 := Sub.trans Bb81 hv81.sub
                      have Lc81 := Lc80.keep fun b hb => k81 b _ hb (by simp)
                      have Lo81 := Lo80.keep fun b hb => k81 b _ hb (by simp)
                      have Lm81 := Lst.of hv81 Bb81
                      have p81_29 := k81 _ _ p80_29 (by simp)
                      have E81 := And.intro E80 (And.intro (b81 _ _ g17b) (And.intro gW81 hv81.cell1))
                      simp (disch := first | assumption | decide) only [go_sem, ↓reduceIte, dBy8, Int.toNat_natCast, KeepK, E81, p81_29]
                      exact ⟨by rw [wC_len hnl]; omega, by rw [wC_len hnl]; omega, SetUp.step hbs hn29 gW81 b81 Lc81 Lo81 Lm81 p81_29 (Sub.lo b4 hq75)⟩
                     ·
                      intro q85 hq85; dsimp only at hq85
                      obtain ⟨Y85, hY85⟩ : ∃ Y, Y = upd Y76 q85 (some (.cells [.bool false, .int .i64 0, .vslice ((List.replicate en ([] : List Int)).map dIs) en] 36)) := ⟨_, rfl⟩
                      rw [← hY85]
                      have k85 := kU hY85 hq85
                      have gW85 := k85 _ _ gW76
                      have b85 := Sub.trans b76 k85
                      have Lc85 := Lc76.keep fun b => k85 b _
                      have Lo85 := Lo76.keep fun b => k85 b _
                      have Lm85 := Lm76.keep fun b => k85 b _
                      have p85_29 := k85 _ _ p76_29
                      have p85_22 := k85 _ _ p76_22
                      have p85_8 := (congrFun hY85 q85).trans (upd_same _ _ _)
                      have E85 := And.intro E76 (And.intro (b85 _ _ g17b) gW85)
                      simp (disch := first | assumption | decide) only [go_sem, ↓reduceIte, dBy8, Int.toNat_natCast, KeepK, E85, p85_29, p85_22, p85_8]
                      refine ⟨?_, ?_⟩
                      ·
                       intro q86 hq86; dsimp only at hq86
                       obtain ⟨Y86, hY86⟩ : ∃ Y, Y = upd Y85 q86 (some (.cells [.oslice 1 q75 0 en en] 26)) := ⟨_, rfl⟩
                       rw [← hY86]
                       have k86 := kU hY86 hq86
                       have gW86 := k86 _ _ gW85
                       have b86 := Sub.trans b85 k86
                       have Lc86 := Lc85.keep fun b => k86 b _
                       have Lo86 := Lo85.keep fun b => k86 b _
                       have Lm86 := Lm85.keep fun b => k86 b _
                       have p86_29 := k86 _ _ p85_29
                       have p86_22 := k86 _ _ p85_22
                       have p86_8 := k86 _ _ p85_8
                       have p86_30 := (congrFun hY86 q86).trans (upd_same _ _ _)
                       have E86 := And.intro E85 (And.intro (b86 _ _ g17b) gW86)
                       simp (disch := first | assumption | decide) only [go_sem, ↓reduceIte, dBy8, Int.toNat_natCast, KeepK, E86, p86_29, p86_22, p86_8, p86_30]
                       obtain ⟨B87, Ba87, Bb87, Bc87, Bd87⟩ := Lo86.own b86
                       refine OwnJ.append (m := 1) Ba87 rfl ?_ fun v87 Y87 hv87 => ?_
                       · omega
                       have k87 := kA hv87 Bd87
                       have gW87 := k87 r _ gW86 (by simp)
                       have b87 := Sub.trans Bb87 hv87.sub
                       have Lc87 := Lc86.keep fun b hb => k87 b _ hb (by simp)
                       have Lo87 := Lst.of hv87 Bb87
                       have Lm87 := Lm86.keep fun b hb => k87 b _ hb (by simp)
                       have p87_29 := k87 _ _ p86_29 (by simp)
                       have p87_22 := k87 _ _ p86_22 (by simp)
                       have p87_30 := k87 _ _ p86_30 (by simp)
                       have E87 := And.intro E86 (And.intro (b87 _ _ g17b) (And.intro gW87 hv87.cell1))
                       simp (disch := first | assumption | decide) only [go_sem, ↓reduceIte, dBy8, Int.toNat_natCast, KeepK, E87, p87_29, p87_22, p87_30]
                       obtain ⟨B88, Ba88, Bb88, Bc88, Bd88⟩ := Lc87.own b87
                       refine OwnJ.append (m := 1) Ba88 rfl ?_ fun v88 Y88 hv88 => ?_
                       · omega
                       have k88 := kA hv88 Bd88
                       have gW88 := k88 r _ gW87 (by simp)
                       have b88 := Sub.trans Bb88 hv88.sub
                       have Lc88 := Lst.of hv88 Bb88
                       have Lo88 := Lo87.keep fun b hb => k88 b _ hb (by simp)
                       have Lm88 := Lm87.keep fun b hb => k88 b _ hb (by simp)
                       have p88_29 := k88 _ _ p87_29 (by simp)
                       have p88_30 := k88 _ _ p87_30 (by simp)
                       have E88 := And.intro E87 (And.intro (b88 _ _ g17b) (And.intro gW88 hv88.cell1))
                       simp (disch := first | assumption | decide) only [go_sem, ↓reduceIte, dBy8, Int.toNat_natCast, KeepK, E88, p88_29, p88_30]
                       obtain ⟨B89, Ba89, Bb89, Bc89, Bd89⟩ := Lm88.own b88
                       refine OwnJ.append (m := 1) Ba89 rfl ?_ fun v89 Y89 hv89 => ?_
                       · omega
                       have k89 := kA hv89 Bd89
                       have gW89 := k89 r _ gW88 (by simp)
                       have b89 := Sub.trans Bb89 hv89.sub
                       have Lc89 := Lc88.keep fun b hb => k89 b _ hb (by simp)
                       have Lo89 := Lo88.keep fun b hb => k89 b _ hb (by simp)
                       have Lm89 := Lst.of hv89 Bb89
                       have p89_29 := k89 _ _ p88_29 (by simp)
                       have E89 := And.intro E88 (And.intro (b89 _ _ g17b) (And.intro gW89 hv89.cell1))
                       simp (disch := first | assumption | decide) only [go_sem, ↓reduceIte, dBy8, Int.toNat_natCast, KeepK, E89, p89_29]
                       exact ⟨by rw [wC_len hnl]; omega, by rw [wC_len hnl]; omega, SetUp.step hbs hn29 gW89 b89 Lc89 Lo89 Lm89 p89_29 (Sub.lo b4 hq75)⟩
                      ·
                       obtain ⟨B93, Ba93, Bb93, Bc93, Bd93⟩ := Lo85.own b85
                       refine OwnJ.append (m := 1) Ba93 rfl ?_ fun v93 Y93 hv93 => ?_
                       · omega
                       have k93 := kA hv93 Bd93
                       have gW93 := k93 r _ gW85 (by simp)
                       have b93 := Sub.trans Bb93 hv93.sub
                       have Lc93 := Lc85.keep fun b hb => k93 b _ hb (by simp)
                       have Lo93 := Lst.of hv93 Bb93
                       have Lm93 := Lm85.keep fun b hb => k93 b _ hb (by simp)
                       have p93_29 := k93 _ _ p85_29 (by simp)
                       have p93_22 := k93 _ _ p85_22 (by simp)
                       have E93 := And.intro E85 (And.intro (b93 _ _ g17b) (And.intro gW93 hv93.cell1))
                       simp (disch := first | assumption | decide) only [go_sem, ↓reduceIte, dBy8, Int.toNat_natCast, KeepK, E93, p93_29, p93_22]
                       refine ⟨?_, ?_⟩
                       ·
                        intro q94 hq94; dsimp only at hq94
                        obtain ⟨Y94, hY94⟩ : ∃ Y, Y = upd Y93 q94 (some (.cells [.oslice 1 q75 0 en en] 26)) := ⟨_, rfl⟩
                        rw [← hY94]
                        have k94 := kU hY94 hq94
                        have gW94 := k94 _ _ gW93
                        have b94 := Sub.trans b93 k94
                        have Lc94 := Lc93.keep fun b => k94 b _
                        have Lo94 := Lo93.keep fun b => k94 b _
                        have Lm94 := Lm93.keep fun b => k94 b _
                        have p94_29 := k94 _ _ p93_29
                        have p94_22 := k94 _ _ p93_22
                        have p94_30 := (congrFun hY94 q94).trans (upd_same _ _ _)
                        have E94 := And.intro E93 (And.intro (b94 _ _ g17b) gW94)
                        simp (disch := first | assumption | decide) only [go_sem, ↓reduceIte, dBy8, Int.toNat_natCast, KeepK, E94, p94_29, p94_22, p94_30]
                        obtain ⟨B95, Ba95, Bb95, Bc95, Bd95⟩ := Lc94.own b94
                        refine OwnJ.append (m := 1) Ba95 rfl ?_ fun v95 Y95 hv95 => ?_
                        · omega
                        have k95 := kA hv95 Bd95
                        have gW95 := k95 r _ gW94 (by simp)
                        have b95 := Sub.trans Bb95 hv95.sub
                        have Lc95 := Lst.of hv95 Bb95
                        have Lo95 := Lo94.keep fun b hb => k95 b _ hb (by simp)
                        have Lm95 := Lm94.keep fun b hb => k95 b _ hb (by simp)
                        have p95_29 := k95 _ _ p94_29 (by simp)
                        have p95_30 := k95 _ _ p94_30 (by simp)
                        have E95 := And.intro E94 (And.intro (b95 _ _ g17b) (And.intro gW95 hv95.cell1))
                        simp (disch := first | assumption | decide) only [go_sem, ↓reduceIte, dBy8, Int.toNat_natCast, KeepK, E95, p95_29, p95_30]
                        obtain ⟨B96, Ba96, Bb96, Bc96, Bd96⟩ := Lm95.own b95
                        refine OwnJ.append (m := 1) Ba96 rfl ?_ fun v96 Y96 hv96 => ?_
                        · omega
                        have k96 := kA hv96 Bd96
                        have gW96 := k96 r _ gW95 (by simp)
                        have b96 := Sub.trans Bb96 hv96.sub
                        have Lc96 := Lc95.keep fun b hb => k96 b _ hb (by simp)
                        have Lo96 := Lo95.keep fun b hb => k96 b _ hb (by simp)
                        have Lm96 := Lst.of hv96 Bb96
                        have p96_29 := k96 _ _ p95_29 (by simp)
                        have E96 := And.intro E95 (And.intro (b96 _ _ g17b) (And.intro gW96 hv96.cell1))
                        simp (disch := first | assumption | decide) only [go_sem, ↓reduceIte, dBy8, Int.toNat_natCast, KeepK, E96, p96_29]
                        exact ⟨by rw [wC_len hnl]; omega, by rw [wC_len hnl]; omega, SetUp.step hbs hn29 gW96 b96 Lc96 Lo96 Lm96 p96_29 (Sub.lo b4 hq75)⟩
                       ·
                        obtain ⟨B100, Ba100, Bb100, Bc100, Bd100⟩ := Lc93.own b93
                        refine OwnJ.append (m := 1) Ba100 rfl ?_ fun v100 Y100 hv100 => ?_
                        · omega
                        have k100 := kA hv100 Bd100
                        have gW100 := k100 r _ gW93 (by simp)
                        have b100 := Sub.trans Bb100 hv100.sub
                        have Lc100 := Lst.of hv100 Bb100
                        have Lo100 := Lo93.keep fun b hb => k100 b _ hb (by simp)
                        have Lm100 := Lm93.keep fun b hb => k100 b _ hb (by simp)
                        have p100_29 := k100 _ _ p93_29 (by simp)
                        have E100 := And.intro E93 (And.intro (b100 _ _ g17b) (And.intro gW100 hv100.cell1))
                        simp (disch := first | assumption | decide) only [go_sem, ↓reduceIte, dBy8, Int.toNat_natCast, KeepK, E100, p100_29]
                        intro q101 hq101; dsimp only at hq101
                        obtain ⟨Y101, hY101⟩ : ∃ Y, Y = upd Y100 q101 (some (.cells [.oslice 1 q75 0 en en] 26)) := ⟨_, rfl⟩
                        rw [← hY101]
                        have k101 := kU hY101 hq101
                        have gW101 := k101 _ _ gW100
                        have b101 := Sub.trans b100 k101
                        have Lc101 := Lc100.keep fun b => k101 b _
                        have Lo101 := Lo100.keep fun b => k101 b _
                        have Lm101 := Lm100.keep fun b => k101 b _
                        have p101_29 := k101 _ _ p100_29
                        have p101_30 := (congrFun hY101 q101).trans (upd_same _ _ _)
                        have E101 := And.intro E100 (And.intro (b101 _ _ g17b) gW101)
                        simp (disch := first | assumption | decide) only [go_sem, ↓reduceIte, dBy8, Int.toNat_natCast, KeepK, E101, p101_29, p101_30]
                        obtain ⟨B102, Ba102, Bb102, Bc102, Bd102⟩ := Lm101.own b101
                        refine OwnJ.append (m := 1) Ba102 rfl ?_ fun v102 Y102 hv102 => ?_
                        · omega
                        have k102 := kA hv102 Bd102
                        have gW102 := k102 r _ gW101 (by simp)
                        have b102 := Sub.trans Bb102 hv102.sub
                        have Lc102 := Lc101.keep fun b hb => k102 b _ hb (by simp)
                        have Lo102 := Lo101.keep fun b hb => k102 b _ hb (by simp)
                        have Lm102 := Lst.of hv102 Bb102
                        have p102_29 := k102 _ _ p101_29 (by simp)
                        have E102 := And.intro E101 (And.intro (b102 _ _ g17b) (And.intro gW102 hv102.cell1))
                        simp (disch := first | assumption | decide) only [go_sem, ↓reduceIte, dBy8, Int.toNat_natCast, KeepK, E102, p102_29]
                        exact ⟨by rw [wC_len hnl]; omega, by rw [wC_len hnl]; omega, SetUp.step hbs hn29 gW102 b102 Lc102 Lo102 Lm102 p102_29 (Sub.lo b4 hq75)⟩
                    ·
                     refine ⟨?_, ?_⟩
                     ·
                      intro q106 hq106; dsimp only at hq106
                      obtain ⟨Y106, hY106⟩ : ∃ Y, Y = upd Y75 q106 (some (.cells [.oslice 1 q75 0 en en] 26)) := ⟨_, rfl⟩
                      rw [← hY106]
                      have k106 := kU hY106 hq106
                      have gW106 := k106 _ _ gW75
                      have b106 := Sub.trans b75 k106
                      have Lc106 := Lc75.keep fun b => k106 b _
                      have Lo106 := Lo75.keep fun b => k106 b _
                      have Lm106 := Lm75.keep fun b => k106 b _
                      have p106_29 := k106 _ _ p75_29
                      have p106_30 := (congrFun hY106 q106).trans (upd_same _ _ _)
                      have E106 := And.intro E75 (And.intro (b106 _ _ g17b) gW106)
                      simp (disch := first | assumption | decide) only [go_sem, ↓reduceIte, dBy8, Int.toNat_natCast, KeepK, E106, p106_29, p106_30]
                      refine ⟨?_, ?_⟩
                      ·
                       intro q107 hq107; dsimp only at hq107
                       obtain ⟨Y107, hY107⟩ : ∃ Y, Y = upd Y106 q107 (some (.cells [.int .i64 (ceilF bases users more k o)] 3)) := ⟨_, rfl⟩
                       rw [← hY107]
                       have k107 := kU hY107 hq107
                       have gW107 := k107 _ _ gW106
                       have b107 := Sub.trans b106 k107
                       have Lc107 := Lc106.keep fun b => k107 b _
                       have Lo107 := Lo106.keep fun b => k107 b _
                       have Lm107 := Lm106.keep fun b => k107 b _
                       have p107_29 := k107 _ _ p106_29
                       have p107_30 := k107 _ _ p106_30
                       have p107_22 := (congrFun hY107 q107).trans (upd_same _ _ _)
                       have E107 := And.intro E106 (And.intro (b107 _ _ g17b) gW107)
                       simp (disch := first | assumption | decide) only [go_sem, ↓reduceIte, dBy8, Int.toNat_natCast, KeepK, E107, p107_29, p107_30, p107_22]
                       intro q108 hq108; dsimp only at hq108
                       obtain ⟨Y108, hY108⟩ : ∃ Y, Y = upd Y107 q108 (some (.cells [.bool false, .int .i64 0, .vslice ((List.replicate en ([] : List Int)).map dIs) en] 36)) := ⟨_, rfl⟩
                       rw [← hY108]
                       have k108 := kU hY108 hq108
                       have gW108 := k108 _ _ gW107
                       have b108 := Sub.trans b107 k108
                       have Lc108 := Lc107.keep fun b => k108 b _
                       have Lo108 := Lo107.keep fun b => k108 b _
                       have Lm108 := Lm107.keep fun b => k108 b _
                       have p108_29 := k108 _ _ p107_29
                       have p108_30 := k108 _ _ p107_30
                       have p108_22 := k108 _ _ p107_22
                       have p108_8 := (congrFun hY108 q108).trans (upd_same _ _ _)
                       have E108 := And.intro E107 (And.intro (b108 _ _ g17b) gW108)
                       simp (disch := first | assumption | decide) only [go_sem, ↓reduceIte, dBy8, Int.toNat_natCast, KeepK, E108, p108_29, p108_30, p108_22, p108_8]
                       obtain ⟨B109, Ba109, Bb109, Bc109, Bd109⟩ := Lo108.own b108
                       refine OwnJ.append (m := 1) Ba109 rfl ?_ fun v109 Y109 hv109 => ?_
                       · omega
                       have k109 := kA hv109 Bd109
                       have gW109 := k109 r _ gW108 (by simp)
                       have b109 := Sub.trans Bb109 hv109.sub
                       have Lc109 := Lc108.keep fun b hb => k109 b _ hb (by simp)
                       have Lo109 := Lst.of hv109 Bb109
                       have Lm109 := Lm108.keep fun b hb => k109 b _ hb (by simp)
                       have p109_29 := k109 _ _ p108_29 (by simp)
                       have p109_30 := k109 _ _ p108_30 (by simp)
                       have p109_22 := k109 _ _ p108_22 (by simp)
                       have E109 := And.intro E108 (And.intro (b109 _ _ g17b) (And.intro gW109 hv109.cell1))
                       simp (disch := first | assumption | decide) only [go_sem, ↓reduceIte, dBy8, Int.toNat_natCast, KeepK, E109, p109_29, p109_30, p109_22]
                       obtain ⟨B110, Ba110, Bb110, Bc110, Bd110⟩ := Lc109.own b109
                       refine OwnJ.append (m := 1) Ba110 rfl ?_ fun v110 Y110 hv110 => ?_
                       · omega
                       have k110 := kA hv110 Bd110
                       have gW110 := k110 r _ gW109 (by simp)
                       have b110 := Sub.trans Bb110 hv110.sub
                       have Lc110 := Lst.of hv110 Bb110
                       have Lo110 := Lo109.keep fun b hb => k110 b _ hb (by simp)
                       have Lm110 := Lm109.keep fun b hb => k110 b _ hb (by simp)
                       have p110_29 := k110 _ _ p109_29 (by simp)
                       have p110_30 := k110 _ _ p109_30 (by simp)
                       have E110 := And.intro E109 (And.intro (b110 _ _ g17b) (And.intro gW110 hv110.cell1))
                       simp (disch := first | assumption | decide) only [go_sem, ↓reduceIte, dBy8, Int.toNat_natCast, KeepK, E110, p110_29, p110_30]
                       obtain ⟨B111, Ba111, Bb111, Bc111, Bd111⟩ := Lm110.own b110
                       refine OwnJ.append (m := 1) Ba111 rfl ?_ fun v111 Y111 hv111 => ?_
                       · omega
                       have k111 := kA hv111 Bd111
                       have gW111 := k111 r _ gW110 (by simp)
                       have b111 := Sub.trans Bb111 hv111.sub
                       have Lc111 := Lc110.keep fun b hb => k111 b _ hb (by simp)
                       have Lo111 := Lo110.keep fun b hb => k111 b _ hb (by simp)
                       have Lm111 := Lst.of hv111 Bb111
                       have p111_29 := k111 _ _ p110_29 (by simp)
                       have E111 := And.intro E110 (And.intro (b111 _ _ g17b) (And.intro gW111 hv111.cell1))
                       simp (disch := first | assumption | decide) only [go_sem, ↓reduceIte, dBy8, Int.toNat_natCast, KeepK, E111, p111_29]
                       exact ⟨by rw [wC_len hnl]; omega, by rw [wC_len hnl]; omega, SetUp.step hbs hn29 gW111 b111 Lc111 Lo111 Lm111 p111_29 (Sub.lo b4 hq75)⟩
                      ·
                       intro q115 hq115; dsimp only at hq115
                       obtain ⟨Y115, hY115⟩ : ∃ Y, Y = upd Y106 q115 (some (.cells [.bool false, .int .i64 0, .vslice ((List.replicate en ([] : List Int)).map dIs) en] 36)) := ⟨_, rfl⟩
                       rw [← hY115]
                       have k115 := kU hY115 hq115
                       have gW115 := k115 _ _ gW106
                       have b115 := Sub.trans b106 k115
                       have Lc115 := Lc106.keep fun b => k115 b _
                       have Lo115 := Lo106.keep fun b => k115 b _
                       have Lm115 := Lm106.keep fun b => k115 b _
                       have p115_29 := k115 _ _ p106_29
                       have p115_30 := k115 _ _ p106_30
                       have p115_8 := (congrFun hY115 q115).trans (upd_same _ _ _)
                       have E115 := And.intro E106 (And.intro (b115 _ _ g17b) gW115)
                       simp (disch := first | assumption | decide) only [go_sem, ↓reduceIte, dBy8, Int.toNat_natCast, KeepK, E115, p115_29, p115_30, p115_8]
                       refine ⟨?_, ?_⟩
                       ·
                        intro q116 hq116; dsimp only at hq116
                        obtain ⟨Y116, hY116⟩ : ∃ Y, Y = upd Y115 q116 (some (.cells [.int .i64 (ceilF bases users more k o)] 3)) := ⟨_, rfl⟩
                        rw [← hY116]
                        have k116 := kU hY116 hq116
                        have gW116 := k116 _ _ gW115
                        have b116 := Sub.trans b115 k116
                        have Lc116 := Lc115.keep fun b => k116 b _
                        have Lo116 := Lo115.keep fun b => k116 b _
                        have Lm116 := Lm115.keep fun b => k116 b _
                        have p116_29 := k116 _ _ p115_29
                        have p116_30 := k116 _ _ p115_30
                        have p116_8 := k116 _ _ p115_8
                        have p116_22 := (congrFun hY116 q116).trans (upd_same _ _ _)
                        have E116 := And.intro E115 (And.intro (b116 _ _ g17b) gW116)
                        simp (disch := first | assumption | decide) only [go_sem, ↓reduceIte, dBy8, Int.toNat_natCast, KeepK, E116, p116_29, p116_30, p116_8, p116_22]
                        obtain ⟨B117, Ba117, Bb117, Bc117, Bd117⟩ := Lo116.own b116
                        refine OwnJ.append (m := 1) Ba117 rfl ?_ fun v117 Y117 hv117 => ?_
                        · omega
                        have k117 := kA hv117 Bd117
                        have gW117 := k117 r _ gW116 (by simp)
                        have b117 := Sub.trans Bb117 hv117.sub
                        have Lc117 := Lc116.keep fun b hb => k117 b _ hb (by simp)
                        have Lo117 := Lst.of hv117 Bb117
                        have Lm117 := Lm116.keep fun b hb => k117 b _ hb (by simp)
                        have p117_29 := k117 _ _ p116_29 (by simp)
                        have p117_30 := k117 _ _ p116_30 (by simp)
                        have p117_22 := k117 _ _ p116_22 (by simp)
                        have E117 := And.intro E116 (And.intro (b117 _ _ g17b) (And.intro gW117 hv117.cell1))
                        simp (disch := first | assumption | decide) only [go_sem, ↓reduceIte, dBy8, Int.toNat_natCast, KeepK, E117, p117_29, p117_30, p117_22]
                        obtain ⟨B118, Ba118, Bb118, Bc118, Bd118⟩ := Lc117.own b117
                        refine OwnJ.append (m := 1) Ba118 rfl ?_ fun v118 Y118 hv118 => ?_
                        · omega
                        have k118 := kA hv118 Bd118
                        have gW118 := k118 r _ gW117 (by simp)
                        have b118 := Sub.trans Bb118 hv118.sub
                        have Lc118 := Lst.of hv118 Bb118
                        have Lo118 := Lo117.keep fun b hb => k118 b _ hb (by simp)
                        have Lm118 := Lm117.keep fun b hb => k118 b _ hb (by simp)
                        have p118_29 := k118 _ _ p117_29 (by simp)
                        have p118_30 := k118 _ _ p117_30 (by simp)
                        have E118 := And.intro E117 (And.intro (b118 _ _ g17b) (And.intro gW118 hv118.cell1))
                        simp (disch := first | assumption | decide) only [go_sem, ↓reduceIte, dBy8, Int.toNat_natCast, KeepK, E118, p118_29, p118_30]
                        obtain ⟨B119, Ba119, Bb119, Bc119, Bd119⟩ := Lm118.own b118
                        refine OwnJ.append (m := 1) Ba119 rfl ?_ fun v119 Y119 hv119 => ?_
                        · omega
                        have k119 := kA hv119 Bd119
                        have gW119 := k119 r _ gW118 (by simp)
                        have b119 := Sub.trans Bb119 hv119.sub
                        have Lc119 := Lc118.keep fun b hb => k119 b _ hb (by simp)
                        have Lo119 := Lo118.keep fun b hb => k119 b _ hb (by simp)
                        have Lm119 := Lst.of hv119 Bb119
                        have p119_29 := k119 _ _ p118_29 (by simp)
                        have E119 := And.intro E118 (And.intro (b119 _ _ g17b) (And.intro gW119 hv119.cell1))
                        simp (disch := first | assumption | decide) only [go_sem, ↓reduceIte, dBy8, Int.toNat_natCast, KeepK, E119, p119_29]
                        exact ⟨by rw [wC_len hnl]; omega, by rw [wC_len hnl]; omega, SetUp.step hbs hn29 gW119 b119 Lc119 Lo119 Lm119 p119_29 (Sub.lo b4 hq75)⟩
                       ·
                        obtain ⟨B123, Ba123, Bb123, Bc123, Bd123⟩ := Lo115.own b115
                        refine OwnJ.append (m := 1) Ba123 rfl ?_ fun v123 Y123 hv123 => ?_
                        · omega
                        have k123 := kA hv123 Bd123
                        have gW123 := k123 r _ gW115 (by simp)
                        have b123 := Sub.trans Bb123 hv123.sub
                        have Lc123 := Lc115.keep fun b hb => k123 b _ hb (by simp)
                        have Lo123 := Lst.of hv123 Bb123
                        have Lm123 := Lm115.keep fun b hb => k123 b _ hb (by simp)
                        have p123_29 := k123 _ _ p115_29 (by simp)
                        have p123_30 := k123 _ _ p115_30 (by simp)
                        have E123 := And.intro E115 (And.intro (b123 _ _ g17b) (And.intro gW123 hv123.cell1))
                        simp (disch := first | assumption | decide) only [go_sem, ↓reduceIte, dBy8, Int.toNat_natCast, KeepK, E123, p123_29, p123_30]
                        intro q124 hq124; dsimp only at hq124
                        obtain ⟨Y124, hY124⟩ : ∃ Y, Y = upd Y123 q124 (some (.cells [.int .i64 (ceilF bases users more k o)] 3)) := ⟨_, rfl⟩
                        rw [← hY124]
                        have k124 := kU hY124 hq124
                        have gW124 := k124 _ _ gW123
                        have b124 := Sub.trans b123 k124
                        have Lc124 := Lc123.keep fun b => k124 b _
                        have Lo124 := Lo123.keep fun b => k124 b _
                        have Lm124 := Lm123.keep fun b => k124 b _
                        have p124_29 := k124 _ _ p123_29
                        have p124_30 := k124 _ _ p123_30
                        have p124_22 := (congrFun hY124 q124).trans (upd_same _ _ _)
                        have E124 := And.intro E123 (And.intro (b124 _ _ g17b) gW124)
                        simp (disch := first | assumption | decide) only [go_sem, ↓reduceIte, dBy8, Int.toNat_natCast, KeepK, E124, p124_29, p124_30, p124_22]
                        obtain ⟨B125, Ba125, Bb125, Bc125, Bd125⟩ := Lc124.own b124
                        refine OwnJ.append (m := 1) Ba125 rfl ?_ fun v125 Y125 hv125 => ?_
                        · omega
                        have k125 := kA hv125 Bd125
                        have gW125 := k125 r _ gW124 (by simp)
                        have b125 := Sub.trans Bb125 hv125.sub
                        have Lc125 := Lst.of hv125 Bb125
                        have Lo125 := Lo124.keep fun b hb => k125 b _ hb (by simp)
                        have Lm125 := Lm124.keep fun b hb => k125 b _ hb (by simp)
                        have p125_29 := k125 _ _ p124_29 (by simp)
                        have p125_30 := k125 _ _ p124_30 (by simp)
                        have E125 := And.intro E124 (And.intro (b125 _ _ g17b) (And.intro gW125 hv125.cell1))
                        simp (disch := first | assumption | decide) only [go_sem, ↓reduceIte, dBy8, Int.toNat_natCast, KeepK, E125, p125_29, p125_30]
                        obtain ⟨B126, Ba126, Bb126, Bc126, Bd126⟩ := Lm125.own b125
                        refine OwnJ.append (m := 1) Ba126 rfl ?_ fun v126 Y126 hv126 => ?_
                        · omega
                        have k126 := kA hv126 Bd126
                        have gW126 := k126 r _ gW125 (by simp)
                        have b126 := Sub.trans Bb126 hv126.sub
                        have Lc126 := Lc125.keep fun b hb => k126 b _ hb (by simp)
                        have Lo126 := Lo125.keep fun b hb => k126 b _ hb (by simp)
                        have Lm126 := Lst.of hv126 Bb126
                        have p126_29 := k126 _ _ p125_29 (by simp)
                        have E126 := And.intro E125 (And.intro (b126 _ _ g17b) (And.intro gW126 hv126.cell1))
                        simp (disch := first | assumption | decide) only [go_sem, ↓reduceIte, dBy8, Int.toNat_natCast, KeepK, E126, p126_29]
                        exact ⟨by rw [wC_len hnl]; omega, by rw [wC_len hnl]; omega, SetUp.step hbs hn29 gW126 b126 Lc126 Lo126 Lm126 p126_29 (Sub.lo b4 hq75)⟩
                     ·
                      intro q130 hq130; dsimp only at hq130
                      obtain ⟨Y130, hY130⟩ : ∃ Y, Y = upd Y75 q130 (some (.cells [.bool false, .int .i64 0, .vslice ((List.replicate en ([] : List Int)).map dIs) en] 36)) := ⟨_, rfl⟩
                      rw [← hY130]
                      have k130 := kU hY130 hq130
                      have gW130 := k130 _ _ gW75
                      have b130 := Sub.trans b75 k130
                      have Lc130 := Lc75.keep fun b => k130 b _
                      have Lo130 := Lo75.keep fun b => k130 b _
                      have Lm130 := Lm75.keep fun b => k130 b _
                      have p130_29 := k130 _ _ p75_29
                      have p130_8 := (congrFun hY130 q130).trans (upd_same _ _ _)
                      have E130 := And.intro E75 (And.intro (b130 _ _ g17b) gW130)
                      simp (disch := first | assumption | decide) only [go_sem, ↓reduceIte, dBy8, Int.toNat_natCast, KeepK, E130, p130_29, p130_8]
                      refine ⟨?_, ?_⟩
                      ·
                       intro q131 hq131; dsimp only at hq131
                       obtain ⟨Y131, hY131⟩ : ∃ Y, Y = upd Y130 q131 (some (.cells [.int .i64 (ceilF bases users more k o)] 3)) := ⟨_, rfl⟩
                       rw [← hY131]
                       have k131 := kU hY131 hq131
                       have gW131 := k131 _ _ gW130
                       have b131 := Sub.trans b130 k131
                       have Lc131 := Lc130.keep fun b => k131 b _
                       have Lo131 := Lo130.keep fun b => k131 b _
                       have Lm131 := Lm130.keep fun b => k131 b _
                       have p131_29 := k131 _ _ p130_29
                       have p131_8 := k131 _ _ p130_8
                       have p131_22 := (congrFun hY131 q131).trans (upd_same _ _ _)
                       have E131 := And.intro E130 (And.intro (b131 _ _ g17b) gW131)
                       simp (disch := first | assumption | decide) only [go_sem, ↓reduceIte, dBy8, Int.toNat_natCast, KeepK, E131, p131_29, p131_8, p131_22]
                       refine ⟨?_, ?_⟩
                       ·
                        intro q132 hq132; dsimp only at hq132
                        obtain ⟨Y132, hY132⟩ : ∃ Y, Y = upd Y131 q132 (some (.cells [.oslice 1 q75 0 en en] 26)) := ⟨_, rfl⟩
                        rw [← hY132]
                        have k132 := kU hY132 hq132
                        have gW132 := k132 _ _ gW131
                        have b132 := Sub.trans b131 k132
                        have Lc132 := Lc131.keep fun b => k132 b _
                        have Lo132 := Lo131.keep fun b => k132 b _
                        have Lm132 := Lm131.keep fun b => k132 b _
                        have p132_29 := k132 _ _ p131_29
                        have p132_8 := k132 _ _ p131_8
                        have p132_22 := k132 _ _ p131_22
                        have p132_30 := (congrFun hY132 q132).trans (upd_same _ _ _)
                        have E132 := And.intro E131 (And.intro (b132 _ _ g17b) gW132)
                        simp (disch := first | assumption | decide) only [go_sem, ↓reduceIte, dBy8, Int.toNat_natCast, KeepK, E132, p132_29, p132_8, p132_22, p132_30]
                        obtain ⟨B133, Ba133, Bb133, Bc133, Bd133⟩ := Lo132.own b132
                        refine OwnJ.append (m := 1) Ba133 rfl ?_ fun v133 Y133 hv133 => ?_
                        · omega
                        have k133 := kA hv133 Bd133
                        have gW133 := k133 r _ gW132 (by simp)
                        have b133 := Sub.trans Bb133 hv133.sub
                        have Lc133 := Lc132.keep fun b hb => k133 b _ hb (by simp)
                        have Lo133 := Lst.of hv133 Bb133
                        have Lm133 := Lm132.keep fun b hb => k133 b _ hb (by simp)
                        have p133_29 := k133 _ _ p132_29 (by simp)
                        have p133_22 := k133 _ _ p132_22 (by simp)
                        have p133_30 := k133 _ _ p132_30 (by simp)
                        have E133 := And.intro E132 (And.intro (b133 _ _ g17b) (And.intro gW133 hv133.cell1))
                        simp (disch := first | assumption | decide) only [go_sem, ↓reduceIte, dBy8, Int.toNat_natCast, KeepK, E133, p133_29, p133_22, p133_30]
                        obtain ⟨B134, Ba134, Bb134, Bc134, Bd134⟩ := Lc133.own b133
                        refine OwnJ.append (m := 1) Ba134 rfl ?_ fun v134 Y134 hv134 => ?_
                        · omega
                        have k134 := kA hv134 Bd134
                        have gW134 := k134 r _ gW133 (by simp)
                        have b134 := Sub.trans Bb134 hv134.sub
                        have Lc134 := Lst.of hv134 Bb134
                        have Lo134 := Lo133.keep fun b hb => k134 b _ hb (by simp)
                        have Lm134 := Lm133.keep fun b hb => k134 b _ hb (by simp)
                        have p134_29 := k134 _ _ p133_29 (by simp)
                        have p134_30 := k134 _ _ p133_30 (by simp)
                        have E134 := And.intro E133 (And.intro (b134 _ _ g17b) (And.intro gW134 hv134.cell1))
                        simp (disch := first | assumption | decide) only [go_sem, ↓reduceIte, dBy8, Int.toNat_natCast, KeepK, E134, p134_29, p134_30]
                        obtain ⟨B135, Ba135, Bb135, Bc135, Bd135⟩ := Lm134.own b134
                        refine OwnJ.append (m := 1) Ba135 rfl ?_ fun v135 Y135 hv135 => ?_
                        · omega
                        have k135 := kA hv135 Bd135
                        have gW135 := k135 r _ gW134 (by simp)
                        have b135 := Sub.trans Bb135 hv135.sub
                        have Lc135 := Lc134.keep fun b hb => k135 b _ hb (by simp)
                        have Lo135 := Lo134.keep fun b hb => k135 b _ hb (by simp)
                        have Lm135 := Lst.of hv135 Bb135
                        have p135_29 := k135 _ _ p134_29 (by simp)
                        have E135 := And.intro E134 (And.intro (b135 _ _ g17b) (And.intro gW135 hv135.cell1))
                        simp (disch := first | assumption | decide) only [go_sem, ↓reduceIte, dBy8, Int.toNat_natCast, KeepK, E135, p135_29]
                        exact ⟨by rw [wC_len hnl]; omega, by rw [wC_len hnl]; omega, SetUp.step hbs hn29 gW135 b135 Lc135 Lo135 Lm135 p135_29 (Sub.lo b4 hq75)⟩
                       ·
                        obtain ⟨B139, Ba139, Bb139, Bc139, Bd139⟩ := Lo131.own b131
                        refine OwnJ.append (m := 1) Ba139 rfl ?_ fun v139 Y139 hv139 => ?_
                        · omega
                        have k139 := kA hv139 Bd139
                        have gW139 := k139 r _ gW131 (by simp)
                        have b139 := Sub.trans Bb139 hv139.sub
                        have Lc139 := Lc131.keep fun b hb => k139 b _ hb (by simp)
                        have Lo139 := Lst.of hv139 Bb139
                        have Lm139 := Lm131.keep fun b hb => k139 b _ hb (by simp)
                        have p139_29 := k139 _ _ p131_29 (by simp)
                        have p139_22 := k139 _ _ p131_22 (by simp)
                        have E139 := And.intro E131 (And.intro (b139 _ _ g17b) (And.intro gW139 hv139.cell1))
                        simp (disch := first | assumption | decide) only [go_sem, ↓reduceIte, dBy8, Int.toNat_natCast, KeepK, E139, p139_29, p139_22]
                        refine ⟨?_, ?_⟩
                        ·
                         intro q140 hq140; dsimp only at hq140
                         obtain ⟨Y140, hY140⟩ : ∃ Y, Y = upd Y139 q140 (some (.cells [.oslice 1 q75 0 en en] 26)) := ⟨_, rfl⟩
                         rw [← hY140]
                         have k140 := kU hY140 hq140
                         have gW140 := k140 _ _ gW139
                         have b140 := Sub.trans b139 k140
                         have Lc140 := Lc139.keep fun b => k140 b _
                         have Lo140 := Lo139.keep fun b => k140 b _
                         have Lm140 := Lm139.keep fun b => k140 b _
                         have p140_29 := k140 _ _ p139_29
                         have p140_22 := k140 _ _ p139_22
                         have p140_30 := (congrFun hY140 q140).trans (upd_same _ _ _)
                         have E140 := And.intro E139 (And.intro (b140 _ _ g17b) gW140)
                         simp (disch := first | assumption | decide) only [go_sem, ↓reduceIte, dBy8, Int.toNat_natCast, KeepK, E140, p140_29, p140_22, p140_30]
                         obtain ⟨B141, Ba141, Bb141, Bc141, Bd141⟩ := Lc140.own b140
                         refine OwnJ.append (m := 1) Ba141 rfl ?_ fun v141 Y141 hv141 => ?_
                         · omega
                         have k141 := kA hv141 Bd141
                         have gW141 := k141 r _ gW140 (by simp)
                         have b141 := Sub.trans Bb141 hv141.sub
                         have Lc141 := Lst.of hv141 Bb141
                         have Lo141 := Lo140.keep fun b hb => k141 b _ hb (by simp)
                         have Lm141 := Lm140.keep fun b hb => k141 b _ hb (by simp)
                         have p141_29 := k141 _ _ p140_29 (by simp)
                         have p141_30 := k141 _ _ p140_30 (by simp)
                         have E141 := And.intro E140 (And.intro (b141 _ _ g17b) (And.intro gW141 hv141.cell1))
                         simp (disch := first | assumption | decide) only [go_sem, ↓reduceIte, dBy8, Int.toNat_natCast, KeepK, E141, p141_29, p141_30]
                         obtain ⟨B142, Ba142, Bb142, Bc142, Bd142⟩ := Lm141.own b141
                         refine OwnJ.append (m := 1) Ba142 rfl ?_ fun v142 Y142 hv142 => ?_
                         · omega
                         have k142 := kA hv142 Bd142
                         have gW142 := k142 r _ gW141 (by simp)
                         have b142 := Sub.trans Bb142 hv142.sub
                         have Lc142 := Lc141.keep fun b hb => k142 b _ hb (by simp)
                         have Lo142 := Lo141.keep fun b hb => k142 b _ hb (by simp)
                         have Lm142 := Lst.of hv142 Bb142
                         have p142_29 := k142 _ _ p141_29 (by simp)
                         have E142 := And.intro E141 (And.intro (b142 _ _ g17b) (And.intro gW142 hv142.cell1))
                         simp (disch := first | assumption | decide) only [go_sem, ↓reduceIte, dBy8, Int.toNat_natCast, KeepK, E142, p142_29]
                         exact ⟨by rw [wC_len hnl]; omega, by rw [wC_len hnl]; omega, SetUp.step hbs hn29 gW142 b142 Lc142 Lo142 Lm142 p142_29 (Sub.lo b4 hq75)⟩
                        ·
                         obtain ⟨B146, Ba146, Bb146, Bc146, Bd146⟩ := Lc139.own b139
                         refine OwnJ.append (m := 1) Ba146 rfl ?_ fun v146 Y146 hv146 => ?_
                         · omega
                         have k146 := kA hv146 Bd146
                         have gW146 := k146 r _ gW139 (by simp)
                         have b146 := Sub.trans Bb146 hv146.sub
                         have Lc146 := Lst.of hv146 Bb146
                         have Lo146 := Lo139.keep fun b hb => k146 b _ hb (by simp)
                         have Lm146 := Lm139.keep fun b hb => k146 b _ hb (by simp)
                         have p146_29 := k146 _ _ p139_29 (by simp)
                         have E146 := And.intro E139 (And.intro (b146 _ _ g17b) (And.intro gW146 hv146.cell1))
                         simp (disch := first | assumption | decide) only [go_sem, ↓reduceIte, dBy8, Int.toNat_natCast, KeepK, E146, p146_29]
                         intro q147 hq147; dsimp only at hq147
                         obtain ⟨Y147, hY147⟩ : ∃ Y, Y = upd Y146 q147 (some (.cells [.oslice 1 q75 0 en en] 26)) := ⟨_, rfl⟩
                         rw [← hY147]
                         have k147 := kU hY147 hq147
                         have gW147 := k147 _ _ gW146
                         have b147 := Sub.trans b146 k147
                         have Lc147 := Lc146.keep fun b => k147 b _
                         have Lo147 := Lo146.keep fun b => k147 b _
                         have Lm147 := Lm146.keep fun b => k147 b _
                         have p147_29 := k147 _ _ p146_29
                         have p147_30 := (congrFun hY147 q147).trans (upd_same _ _ _)
                         have E147 := And.intro E146 (And.intro (b147 _ _ g17b) gW147)
                         simp (disch := first | assumption | decide) only [go_sem, ↓reduceIte, dBy8, Int.toNat_natCast, KeepK, E147, p147_29, p147_30]
                         obtain ⟨B148, Ba148, Bb148, Bc148, Bd148⟩ := Lm147.own b147
                         refine OwnJ.append (m := 1) Ba148 rfl ?_ fun v148 Y148 hv148 => ?_
                         · omega
                         have k148 := kA hv148 Bd148
                         have gW148 := k148 r _ gW147 (by simp)
                         have b148 := Sub.trans Bb148 hv148.sub
                         have Lc148 := Lc147.keep fun b hb => k148 b _ hb (by simp)
                         have Lo148 := Lo147.keep fun b hb => k148 b _ hb (by simp)
                         have Lm148 := Lst.of hv148 Bb148
                         have p148_29 := k148 _ _ p147_29 (by simp)
                         have E148 := And.intro E147 (And.intro (b148 _ _ g17b) (And.intro gW148 hv148.cell1))
                         simp (disch := first | assumption | decide) only [go_sem, ↓reduceIte, dBy8, Int.toNat_natCast, KeepK, E148, p148_29]
                         exact ⟨by rw [wC_len hnl]; omega, by rw [wC_len hnl]; omega, SetUp.step hbs hn29 gW148 b148 Lc148 Lo148 Lm148 p148_29 (Sub.lo b4 hq75)⟩
                      ·
                       refine ⟨?_, ?_⟩
                       ·
                        intro q152 hq152; dsimp only at hq152
                        obtain ⟨Y152, hY152⟩ : ∃ Y, Y = upd Y130 q152 (some (.cells [.oslice 1 q75 0 en en] 26)) := ⟨_, rfl⟩
                        rw [← hY152]
                        have k152 := kU hY152 hq152
                        have gW152 := k152 _ _ gW130
                        have b152 := Sub.trans b130 k152
                        have Lc152 := Lc130.keep fun b => k152 b _
                        have Lo152 := Lo130.keep fun b => k152 b _
                        have Lm152 := Lm130.keep fun b => k152 b _
                        have p152_29 := k152 _ _ p130_29
                        have p152_8 := k152 _ _ p130_8
                        have p152_30 := (congrFun hY152 q152).trans (upd_same _ _ _)
                        have E152 := And.intro E130 (And.intro (b152 _ _ g17b) gW152)
                        simp (disch := first | assumption | decide) only [go_sem, ↓reduceIte, dBy8, Int.toNat_natCast, KeepK, E152, p152_29, p152_8, p152_30]
                        refine ⟨?_, ?_⟩
                        ·
                         intro q153 hq153; dsimp only at hq153
                         obtain ⟨Y153, hY153⟩ : ∃ Y, Y = upd Y152 q153 (some (.cells [.int .i64 (ceilF bases users more k o)] 3)) := ⟨_, rfl⟩
                         rw [← hY153]
                         have k153 := kU hY153 hq153
                         have gW153 := k153 _ _ gW152
                         have b153 := Sub.trans b152 k153
                         have Lc153 := Lc152.keep fun b => k153 b _
                         have Lo153 := Lo152.keep fun b => k153 b _
                         have Lm153 := Lm152.keep fun b => k153 b _
                         have p153_29 := k153 _ _ p152_29
                         have p153_8 := k153 _ _ p152_8
                         have p153_30 := k153 _ _ p152_30
                         have p153_22 := (congrFun hY153 q153).trans (upd_same _ _ _)
                         have E153 := And.intro E152 (And.intro (b153 _ _ g17b) gW153)
                         simp (disch := first | assumption | decide) only [go_sem, ↓reduceIte, dBy8, Int.toNat_natCast, KeepK, E153, p153_29, p153_8, p153_30, p153_22]
                         obtain ⟨B154, Ba154, Bb154, Bc154, Bd154⟩ := Lo153.own b153
                         refine OwnJ.append (m := 1) Ba154 rfl ?_ fun v154 Y154 hv154 => ?_
                         · omega
                         have k154 := kA hv154 Bd154
                         have gW154 := k154 r _ gW153 (by simp)
                         have b154 := Sub.trans Bb154 hv154.sub
                         have Lc154 := Lc153.keep fun b hb => k154 b _ hb (by simp)
                         have Lo154 := Lst.of hv154 Bb154
                         have Lm154 := Lm153.keep fun b hb => k154 b _ hb (by simp)
                         have p154_29 := k154 _ _ p153_29 (by simp)
                         have p154_30 := k154 _ _ p153_30 (by simp)
                         have p154_22 := k154 _ _ p153_22 (by simp)
                         have E154 := And.intro E153 (And.intro (b154 _ _ g17b) (And.intro gW154 hv154.cell1))
                         simp (disch := first | assumption | decide) only [go_sem, ↓reduceIte, dBy8, Int.toNat_natCast, KeepK, E154, p154_29, p154_30, p154_22]
                         obtain ⟨B155, Ba155, Bb155, Bc155, Bd155⟩ := Lc154.own b154
                         refine OwnJ.append (m := 1) Ba155 rfl ?_ fun v155 Y155 hv155 => ?_
                         · omega
                         have k155 := kA hv155 Bd155
                         have gW155 := k155 r _ gW154 (by simp)
                         have b155 := Sub.trans Bb155 hv155.sub
                         have Lc155 := Lst.of hv155 Bb155
                         have Lo155 := Lo154.keep fun b hb => k155 b _ hb (by simp)
                         have Lm155 := Lm154.keep fun b hb => k155 b _ hb (by simp)
                         have p155_29 := k155 _ _ p154_29 (by simp)
                         have p155_30 := k155 _ _ p154_30 (by simp)
                         have E155 := And.intro E154 (And.intro (b155 _ _ g17b) (And.intro gW155 hv155.cell1))
                         simp (disch := first | assumption | decide) only [go_sem, ↓reduceIte, dBy8, Int.toNat_natCast, KeepK, E155, p155_29, p155_30]
                         obtain ⟨B156, Ba156, Bb156, Bc156, Bd156⟩ := Lm155.own b155
                         refine OwnJ.append (m := 1) Ba156 rfl ?_ fun v156 Y156 hv156 => ?_
                         · omega
                         have k156 := kA hv156 Bd156
                         have gW156 := k156 r _ gW155 (by simp)
                         have b156 := Sub.trans Bb156 hv156.sub
                         have Lc156 := Lc155.keep fun b hb => k156 b _ hb (by simp)
                         have Lo156 := Lo155.keep fun b hb => k156 b _ hb (by simp)
                         have Lm156 := Lst.of hv156 Bb156
                         have p156_29 := k156 _ _ p155_29 (by simp)
                         have E156 := And.intro E155 (And.intro (b156 _ _ g17b) (And.intro gW156 hv156.cell1))
                         simp (disch := first | assumption | decide) only [go_sem, ↓reduceIte, dBy8, Int.toNat_natCast, KeepK, E156, p156_29]
                         exact ⟨by rw [wC_len hnl]; omega, by rw [wC_len hnl]; omega, SetUp.step hbs hn29 gW156 b156 Lc156 Lo156 Lm156 p156_29 (Sub.lo b4 hq75)⟩
                        ·
                         obtain ⟨B160, Ba160, Bb160, Bc160, Bd160⟩ := Lo152.own b152
                         refine OwnJ.append (m := 1) Ba160 rfl ?_ fun v160 Y160 hv160 => ?_
                         · omega
                         have k160 := kA hv160 Bd160
                         have gW160 := k160 r _ gW152 (by simp)
                         have b160 := Sub.trans Bb160 hv160.sub
                         have Lc160 := Lc152.keep fun b hb => k160 b _ hb (by simp)
                         have Lo160 := Lst.of hv160 Bb160
                         have Lm160 := Lm152.keep fun b hb => k160 b _ hb (by simp)
                         have p160_29 := k160 _ _ p152_29 (by simp)
                         have p160_30 := k160 _ _ p152_30 (by simp)
                         have E160 := And.intro E152 (And.intro (b160 _ _ g17b) (And.intro gW160 hv160.cell1))
                         simp (disch := first | assumption | decide) only [go_sem, ↓reduceIte, dBy8, Int.toNat_natCast, KeepK, E160, p160_29, p160_30]
                         intro q161 hq161; dsimp only at hq161
                         obtain ⟨Y161, hY161⟩ : ∃ Y, Y = upd Y160 q161 (some (.cells [.int .i64 (ceilF bases users more k o)] 3)) := ⟨_, rfl⟩
                         rw [← hY161]
                         have k161 := kU hY161 hq161
                         have gW161 := k161 _ _ gW160
                         have b161 := Sub.trans b160 k161
                         have Lc161 := Lc160.keep fun b => k161 b _
                         have Lo161 := Lo160.keep fun b => k161 b _
                         have Lm161 := Lm160.keep fun b => k161 b _
                         have p161_29 := k161 _ _ p160_29
                         have p161_30 := k161 _ _ p160_30
                         have p161_22 := (congrFun hY161 q161).trans (upd_same _ _ _)
                         have E161 := And.intro E160 (And.intro (b161 _ _ g17b) gW161)
                         simp (disch := first | assumption | decide) only [go_sem, ↓reduceIte, dBy8, Int.toNat_natCast, KeepK, E161, p161_29, p161_30, p161_22]
                         obtain ⟨B162, Ba162, Bb162, Bc162, Bd162⟩ := Lc161.own b161
                         refine OwnJ.append (m := 1) Ba162 rfl ?_ fun v162 Y162 hv162 => ?_
                         · omega
                         have k162 := kA hv162 Bd162
                         have gW162 := k162 r _ gW161 (by simp)
                         have b162 := Sub.trans Bb162 hv162.sub
                         have Lc162 := Lst.of hv162 Bb162
                         have Lo162 := Lo161.keep fun b hb => k162 b _ hb (by simp)
                         have Lm162 := Lm161.keep fun b hb => k162 b _ hb (by simp)
                         have p162_29 := k162 _ _ p161_29 (by simp)
                         have p162_30 := k162 _ _ p161_30 (by simp)
                         have E162 := And.intro E161 (And.intro (b162 _ _ g17b) (And.intro gW162 hv162.cell1))
                         simp (disch := first | assumption | decide) only [go_sem, ↓reduceIte, dBy8, Int.toNat_natCast, KeepK, E162, p162_29, p162_30]
                         obtain ⟨B163, Ba163, Bb163, Bc163, Bd163⟩ := Lm162.own b162
                         refine OwnJ.append (m := 1) Ba163 rfl ?_ fun v163 Y163 hv163 => ?_
                         · omega
                         have k163 := kA hv163 Bd163
                         have gW163 := k163 r _ gW162 (by simp)
                         have b163 := Sub.trans Bb163 hv163.sub
                         have Lc163 := Lc162.keep fun b hb => k163 b _ hb (by simp)
                         have Lo163 := Lo162.keep fun b hb => k163 b _ hb (by simp)
                         have Lm163 := Lst.of hv163 Bb163
                         have p163_29 := k163 _ _ p162_29 (by simp)
                         have E163 := And.intro E162 (And.intro (b163 _ _ g17b) (And.intro gW163 hv163.cell1))
                         simp (disch := first | assumption | decide) only [go_sem, ↓reduceIte, dBy8, Int.toNat_natCast, KeepK, E163, p163_29]
                         exact ⟨by rw [wC_len hnl]; omega, by rw [wC_len hnl]; omega, SetUp.step hbs hn29 gW163 b163 Lc163 Lo163 Lm163 p163_29 (Sub.lo b4 hq75)⟩
                       ·
                        obtain ⟨B167, Ba167, Bb167, Bc167, Bd167⟩ := Lo130.own b130
                        refine OwnJ.append (m := 1) Ba167 rfl ?_ fun v167 Y167 hv167 => ?_
                        · omega
                        have k167 := kA hv167 Bd167
                        have gW167 := k167 r _ gW130 (by simp)
                        have b167 := Sub.trans Bb167 hv167.sub
                        have Lc167 := Lc130.keep fun b hb => k167 b _ hb (by simp)
                        have Lo167 := Lst.of hv167 Bb167
                        have Lm167 := Lm130.keep fun b hb => k167 b _ hb (by simp)
                        have p167_29 := k167 _ _ p130_29 (by simp)
                        have E167 := And.intro E130 (And.intro (b167 _ _ g17b) (And.intro gW167 hv167.cell1))
                        simp (disch := first | assumption | decide) only [go_sem, ↓reduceIte, dBy8, Int.toNat_natCast, KeepK, E167, p167_29]
                        refine ⟨?_, ?_⟩
                        ·
                         intro q168 hq168; dsimp only at hq168
                         obtain ⟨Y168, hY168⟩ : ∃ Y, Y = upd Y167 q168 (some (.cells [.oslice 1 q75 0 en en] 26)) := ⟨_, rfl⟩
                         rw [← hY168]
                         have k168 := kU hY168 hq168
                         have gW168 := k168 _ _ gW167
                         have b168 := Sub.trans b167 k168
                         have Lc168 := Lc167.keep fun b => k168 b _
                         have Lo168 := Lo167.keep fun b => k168 b _
                         have Lm168 := Lm167.keep fun b => k168 b _
                         have p168_29 := k168 _ _ p167_29
                         have p168_30 := (congrFun hY168 q168).trans (upd_same _ _ _)
                         have E168 := And.intro E167 (And.intro (b168 _ _ g17b) gW168)
                         simp (disch := first | assumption | decide) only [go_sem, ↓reduceIte, dBy8, Int.toNat_natCast, KeepK, E168, p168_29, p168_30]
                         intro q169 hq169; dsimp only at hq169
                         obtain ⟨Y169, hY169⟩ : ∃ Y, Y = upd Y168 q169 (some (.cells [.int .i64 (ceilF bases users more k o)] 3)) := ⟨_, rfl⟩
                         rw [← hY169]
                         have k169 := kU hY169 hq169
                         have gW169 := k169 _ _ gW168
                         have b169 := Sub.trans b168 k169
                         have Lc169 := Lc168.keep fun b => k169 b _
                         have Lo169 := Lo168.keep fun b => k169 b _
                         have Lm169 := Lm168.keep fun b => k169 b _
                         have p169_29 := k169 _ _ p168_29
                         have p169_30 := k169 _ _ p168_30
                         have p169_22 := (congrFun hY169 q169).trans (upd_same _ _ _)
                         have E169 := And.intro E168 (And.intro (b169 _ _ g17b) gW169)
                         simp (disch := first | assumption | decide) only [go_sem, ↓reduceIte, dBy8, Int.toNat_natCast, KeepK, E169, p169_29, p169_30, p169_22]
                         obtain ⟨B170, Ba170, Bb170, Bc170, Bd170⟩ := Lc169.own b169
                         refine OwnJ.append (m := 1) Ba170 rfl ?_ fun v170 Y170 hv170 => ?_
                         · omega
                         have k170 := kA hv170 Bd170
                         have gW170 := k170 r _ gW169 (by simp)
                         have b170 := Sub.trans Bb170 hv170.sub
                         have Lc170 := Lst.of hv170 Bb170
                         have Lo170 := Lo169.keep fun b hb => k170 b _ hb (by simp)
                         have Lm170 := Lm169.keep fun b hb => k170 b _ hb (by simp)
                         have p170_29 := k170 _ _ p169_29 (by simp)
                         have p170_30 := k170 _ _ p169_30 (by simp)
                         have E170 := And.intro E169 (And.intro (b170 _ _ g17b) (And.intro gW170 hv170.cell1))
                         simp (disch := first | assumption | decide) only [go_sem, ↓reduceIte, dBy8, Int.toNat_natCast, KeepK, E170, p170_29, p170_30]
                         obtain ⟨B171, Ba171, Bb171, Bc171, Bd171⟩ := Lm170.own b170
                         refine OwnJ.append (m := 1) Ba171 rfl ?_ fun v171 Y171 hv171 => ?_
                         · omega
                         have k171 := kA hv171 Bd171
                         have gW171 := k171 r _ gW170 (by simp)
                         have b171 := Sub.trans Bb171 hv171.sub
                         have Lc171 := Lc170.keep fun b hb => k171 b _ hb (by simp)
                         have Lo171 := Lo170.keep fun b hb => k171 b _ hb (by simp)
                         have Lm171 := Lst.of hv171 Bb171
                         have p171_29 := k171 _ _ p170_29 (by simp)
                         have E171 := And.intro E170 (And.intro (b171 _ _ g17b) (And.intro gW171 hv171.cell1))
                         simp (disch := first | assumption | decide) only [go_sem, ↓reduceIte, dBy8, Int.toNat_natCast, KeepK, E171, p171_29]
                         exact ⟨by rw [wC_len hnl]; omega, by rw [wC_len hnl]; omega, SetUp.step hbs hn29 gW171 b171 Lc171 Lo171 Lm171 p171_29 (Sub.lo b4 hq75)⟩
                        ·
                         intro q175 hq175; dsimp only at hq175
                         obtain ⟨Y175, hY175⟩ : ∃ Y, Y = upd Y167 q175 (some (.cells [.int .i64 (ceilF bases users more k o)] 3)) := ⟨_, rfl⟩
                         rw [← hY175]
                         have k175 := kU hY175 hq175
                         have gW175 := k175 _ _ gW167
                         have b175 := Sub.trans b167 k175
                         have Lc175 := Lc167.keep fun b => k175 b _
                         have Lo175 := Lo167.keep fun b => k175 b _
                         have Lm175 := Lm167.keep fun b => k175 b _
                         have p175_29 := k175 _ _ p167_29
                         have p175_22 := (congrFun hY175 q175).trans (upd_same _ _ _)
                         have E175 := And.intro E167 (And.intro (b175 _ _ g17b) gW175)
                         simp (disch := first | assumption | decide) only [go_sem, ↓reduceIte, dBy8, Int.toNat_natCast, KeepK, E175, p175_29, p175_22]
                         refine ⟨?_, ?_⟩
                         ·
                          intro q176 hq176; dsimp only at hq176
                          obtain ⟨Y176, hY176⟩ : ∃ Y, Y = upd Y175 q176 (some (.cells [.oslice 1 q75 0 en en] 26)) := ⟨_, rfl⟩
                          rw [← hY176]
                          have k176 := kU hY176 hq176
                          have gW176 := k176 _ _ gW175
                          have b176 := Sub.trans b175 k176
                          have Lc176 := Lc175.keep fun b => k176 b _
                          have Lo176 := Lo175.keep fun b => k176 b _
                          have Lm176 := Lm175.keep fun b => k176 b _
                          have p176_29 := k176 _ _ p175_29
                          have p176_22 := k176 _ _ p175_22
                          have p176_30 := (congrFun hY176 q176).trans (upd_same _ _ _)
                          have E176 := And.intro E175 (And.intro (b176 _ _ g17b) gW176)
                          simp (disch := first | assumption | decide) only [go_sem, ↓reduceIte, dBy8, Int.toNat_natCast, KeepK, E176, p176_29, p176_22, p176_30]
                          obtain ⟨B177, Ba177, Bb177, Bc177, Bd177⟩ := Lc176.own b176
                          refine OwnJ.append (m := 1) Ba177 rfl ?_ fun v177 Y177 hv177 => ?_
                          · omega
                          have k177 := kA hv177 Bd177
                          have gW177 := k177 r _ gW176 (by simp)
                          have b177 := Sub.trans Bb177 hv177.sub
                          have Lc177 := Lst.of hv177 Bb177
                          have Lo177 := Lo176.keep fun b hb => k177 b _ hb (by simp)
                          have Lm177 := Lm176.keep fun b hb => k177 b _ hb (by simp)
                          have p177_29 := k177 _ _ p176_29 (by simp)
                          have p177_30 := k177 _ _ p176_30 (by simp)
                          have E177 := And.intro E176 (And.intro (b177 _ _ g17b) (And.intro gW177 hv177.cell1))
                          simp (disch := first | assumption | decide) only [go_sem, ↓reduceIte, dBy8, Int.toNat_natCast, KeepK, E177, p177_29, p177_30]
                          obtain ⟨B178, Ba178, Bb178, Bc178, Bd178⟩ := Lm177.own b177
                          refine OwnJ.append (m := 1) Ba178 rfl ?_ fun v178 Y178 hv178 => ?_
                          · omega
                          have k178 := kA hv178 Bd178
                          have gW178 := k178 r _ gW177 (by simp)
                          have b178 := Sub.trans Bb178 hv178.sub
                          have Lc178 := Lc177.keep fun b hb => k178 b _ hb (by simp)
                          have Lo178 := Lo177.keep fun b hb => k178 b _ hb (by simp)
                          have Lm178 := Lst.of hv178 Bb178
                          have p178_29 := k178 _ _ p177_29 (by simp)
                          have E178 := And.intro E177 (And.intro (b178 _ _ g17b) (And.intro gW178 hv178.cell1))
                          simp (disch := first | assumption | decide) only [go_sem, ↓reduceIte, dBy8, Int.toNat_natCast, KeepK, E178, p178_29]
                          exact ⟨by rw [wC_len hnl]; omega, by rw [wC_len hnl]; omega, SetUp.step hbs hn29 gW178 b178 Lc178 Lo178 Lm178 p178_29 (Sub.lo b4 hq75)⟩
                         ·
                          obtain ⟨B182, Ba182, Bb182, Bc182, Bd182⟩ := Lc175.own b175
                          refine OwnJ.append (m := 1) Ba182 rfl ?_ fun v182 Y182 hv182 => ?_
                          · omega
                          have k182 := kA hv182 Bd182
                          have gW182 := k182 r _ gW175 (by simp)
                          have b182 := Sub.trans Bb182 hv182.sub
                          have Lc182 := Lst.of hv182 Bb182
                          have Lo182 := Lo175.keep fun b hb => k182 b _ hb (by simp)
                          have Lm182 := Lm175.keep fun b hb => k182 b _ hb (by simp)
                          have p182_29 := k182 _ _ p175_29 (by simp)
                          have E182 := And.intro E175 (And.intro (b182 _ _ g17b) (And.intro gW182 hv182.cell1))
                          simp (disch := first | assumption | decide) only [go_sem, ↓reduceIte, dBy8, Int.toNat_natCast, KeepK, E182, p182_29]
                          intro q183 hq183; dsimp only at hq183
                          obtain ⟨Y183, hY183⟩ : ∃ Y, Y = upd Y182 q183 (some (.cells [.oslice 1 q75 0 en en] 26)) := ⟨_, rfl⟩
                          rw [← hY183]
                          have k183 := kU hY183 hq183
                          have gW183 := k183 _ _ gW182
                          have b183 := Sub.trans b182 k183
                          have Lc183 := Lc182.keep fun b => k183 b _
                          have Lo183 := Lo182.keep fun b => k183 b _
                          have Lm183 := Lm182.keep fun b => k183 b _
                          have p183_29 := k183 _ _ p182_29
                          have p183_30 := (congrFun hY183 q183).trans (upd_same _ _ _)
                          have E183 := And.intro E182 (And.intro (b183 _ _ g17b) gW183)
                          simp (disch := first | assumption | decide) only [go_sem, ↓reduceIte, dBy8, Int.toNat_natCast, KeepK, E183, p183_29, p183_30]
                          obtain ⟨B184, Ba184, Bb184, Bc184, Bd184⟩ := Lm183.own b183
                          refine OwnJ.append (m := 1) Ba184 rfl ?_ fun v184 Y184 hv184 => ?_
                          · omega
                          have k184 := kA hv184 Bd184
                          have gW184 := k184 r _ gW183 (by simp)
                          have b184 := Sub.trans Bb184 hv184.sub
                          have Lc184 := Lc183.keep fun b hb => k184 b _ hb (by simp)
                          have Lo184 := Lo183.keep fun b hb => k184 b _ hb (by simp)
                          have Lm184 := Lst.of hv184 Bb184
                          have p184_29 := k184 _ _ p183_29 (by simp)
                          have E184 := And.intro E183 (And.intro (b184 _ _ g17b) (And.intro gW184 hv184.cell1))
                          simp (disch := first | assumption | decide) only [go_sem, ↓reduceIte, dBy8, Int.toNat_natCast, KeepK, E184, p184_29]
                          exact ⟨by rw [wC_len hnl]; omega, by rw [wC_len hnl]; omega, SetUp.step hbs hn29 gW184 b184 Lc184 Lo184 Lm184 p184_29 (Sub.lo b4 hq75)⟩
                   ·
                    intro q188 hq188; dsimp only at hq188
                    obtain ⟨Y188, hY188⟩ : ∃ Y, Y = upd heap q188 (some (.cells [.bool false, .int .i64 0, .vslice ((List.replicate en ([] : List Int)).map dIs) en] 36)) := ⟨_, rfl⟩
                    rw [← hY188]
                    have k188 := kU hY188 hq188
                    have gW188 := k188 _ _ gW'
                    have b188 := Sub.trans b4 k188
                    have Lc188 := Lc1.keep fun b => k188 b _
                    have Lo188 := Lo1.keep fun b => k188 b _
                    have Lm188 := Lm1.keep fun b => k188 b _
                    have p188_8 := (congrFun hY188 q188).trans (upd_same _ _ _)
                    have E188 := And.intro E0 (And.intro (b188 _ _ g17b) gW188)
                    simp (disch := first | assumption | decide) only [go_sem, ↓reduceIte, dBy8, Int.toNat_natCast, KeepK, E188, p188_8]
                    refine ⟨?_, ?_⟩
                    ·
                     intro q189 hq189; dsimp only at hq189
                     obtain ⟨Y189, hY189⟩ : ∃ Y, Y = upd Y188 q189 (some (.cells [.int .i64 (ceilF bases users more k o)] 3)) := ⟨_, rfl⟩
                     rw [← hY189]
                     have k189 := kU hY189 hq189
                     have gW189 := k189 _ _ gW188
                     have b189 := Sub.trans b188 k189
                     have Lc189 := Lc188.keep fun b => k189 b _
                     have Lo189 := Lo188.keep fun b => k189 b _
                     have Lm189 := Lm188.keep fun b => k189 b _
                     have p189_8 := k189 _ _ p188_8
                     have p189_22 := (congrFun hY189 q189).trans (upd_same _ _ _)
                     have E189 := And.intro E188 (And.intro (b189 _ _ g17b) gW189)
                     simp (disch := first | assumption | decide) only [go_sem, ↓reduceIte, dBy8, Int.toNat_natCast, KeepK, E189, p189_8, p189_22]
                     refine ⟨?_, ?_⟩
                     ·
                      intro q190 hq190; dsimp only at hq190
                      obtain ⟨Y190, hY190⟩ : ∃ Y, Y = upd Y189 q190 (some (.cells (List.replicate en .nilSlice) 27)) := ⟨_, rfl⟩
                      rw [← hY190]
                      have k190 := kU hY190 hq190
                      have gW190 := k190 _ _ gW189
                      have b190 := Sub.trans b189 k190
                      have Lc190 := Lc189.keep fun b => k190 b _
                      have Lo190 := Lo189.keep fun b => k190 b _
                      have Lm190 := Lm189.keep fun b => k190 b _
                      have p190_8 := k190 _ _ p189_8
                      have p190_22 := k190 _ _ p189_22
                      have p190_29 := (congrFun hY190 q190).trans (upd_same _ _ _)
                      have E190 := And.intro E189 (And.intro (b190 _ _ g17b) gW190)
                      simp (disch := first | assumption | decide) only [go_sem, ↓reduceIte, dBy8, Int.toNat_natCast, KeepK, E190, p190_8, p190_22, p190_29]
                      refine ⟨?_, ?_⟩
                      ·
                       intro q191 hq191; dsimp only at hq191
                       obtain ⟨Y191, hY191⟩ : ∃ Y, Y = upd Y190 q191 (some (.cells [.oslice 1 q190 0 en en] 26)) := ⟨_, rfl⟩
                       rw [← hY191]
                       have k191 := kU hY191 hq191
                       have gW191 := k191 _ _ gW190
                       have b191 := Sub.trans b190 k191
                       have Lc191 := Lc190.keep fun b => k191 b _
                       have Lo191 := Lo190.keep fun b => k191 b _
                       have Lm191 := Lm190.keep fun b => k191 b _
                       have p191_8 := k191 _ _ p190_8
                       have p191_22 := k191 _ _ p190_22
                       have p191_29 := k191 _ _ p190_29
                       have p191_30 := (congrFun hY191 q191).trans (upd_same _ _ _)
                       have E191 := And.intro E190 (And.intro (b191 _ _ g17b) gW191)
                       simp (disch := first | assumption | decide) only [go_sem, ↓reduceIte, dBy8, Int.toNat_natCast, KeepK, E191, p191_8, p191_22, p191_29, p191_30]
                       obtain ⟨B192, Ba192, Bb192, Bc192, Bd192⟩ := Lo191.own b191
                       refine OwnJ.append (m := 1) Ba192 rfl ?_ fun v192 Y192 hv192 => ?_
                       · omega
                       have k192 := kA hv192 Bd192
                       have gW192 := k192 r _ gW191 (by simp)
                       have b192 := Sub.trans Bb192 hv192.sub
                       have Lc192 := Lc191.keep fun b hb => k192 b _ hb (by simp)
                       have Lo192 := Lst.of hv192 Bb192
                       have Lm192 := Lm191.keep fun b hb => k192 b _ hb (by simp)
                       have p192_22 := k192 _ _ p191_22 (by simp)
                       have p192_29 := k192 _ _ p191_29 (by simp)
                       have p192_30 := k192 _ _ p191_30 (by simp)
                       have E192 := And.intro E191 (And.intro (b192 _ _ g17b) (And.intro gW192 hv192.cell1))
                       simp (disch := first | assumption | decide) only [go_sem, ↓reduceIte, dBy8, Int.toNat_natCast, KeepK, E192, p192_22, p192_29, p192_30]
                       obtain ⟨B193, Ba193, Bb193, Bc193, Bd193⟩ := Lc192.own b192
                       refine OwnJ.append (m := 1) Ba193 rfl ?_ fun v193 Y193 hv193 => ?_
                       · omega
                       have k193 := kA hv193 Bd193
                       have gW193 := k193 r _ gW192 (by simp)
                       have b193 := Sub.trans Bb193 hv193.sub
                       have Lc193 := Lst.of hv193 Bb193
                       have Lo193 := Lo192.keep fun b hb => k193 b _ hb (by simp)
                       have Lm193 := Lm192.keep fun b hb => k193 b _ hb (by simp)
                       have p193_29 := k193 _ _ p192_29 (by simp)
                       have p193_30 := k193 _ _ p192_30 (by simp)
                       have E193 := And.intro E192 (And.intro (b193 _ _ g17b) (And.intro gW193 hv193.cell1))
                       simp (disch := first | assumption | decide) only [go_sem, ↓reduceIte, dBy8, Int.toNat_natCast, KeepK, E193, p193_29, p193_30]
                       obtain ⟨B194, Ba194, Bb194, Bc194, Bd194⟩ := Lm193.own b193
                       refine OwnJ.append (m := 1) Ba194 rfl ?_ fun v194 Y194 hv194 => ?_
                       · omega
                       have k194 := kA hv194 Bd194
                       have gW194 := k194 r _ gW193 (by simp)
                       have b194 := Sub.trans Bb194 hv194.sub
                       have Lc194 := Lc193.keep fun b hb => k194 b _ hb (by simp)
                       have Lo194 := Lo193.keep fun b hb => k194 b _ hb (by simp)
                       have Lm194 := Lst.of hv194 Bb194
                       have p194_29 := k194 _ _ p193_29 (by simp)
                       have E194 := And.intro E193 (And.intro (b194 _ _ g17b) (And.intro gW194 hv194.cell1))
                       simp (disch := first | assumption | decide) only [go_sem, ↓reduceIte, dBy8, Int.toNat_natCast, KeepK, E194, p194_29]
                       exact ⟨by rw [wC_len hnl]; omega, by rw [wC_len hnl]; omega, SetUp.step hbs hn29 gW194 b194 Lc194 Lo194 Lm194 p194_29 (Sub.lo b189 hq190)⟩
                      ·
                       obtain ⟨B198, Ba198, Bb198, Bc198, Bd198⟩ := Lo190.own b190
                       refine OwnJ.append (m := 1) Ba198 rfl ?_ fun v198 Y198 hv198 => ?_
                       · omega
                       have k198 := kA hv198 Bd198
                       have gW198 := k198 r _ gW190 (by simp)
                       have b198 := Sub.trans Bb198 hv198.sub
                       have Lc198 := Lc190.keep fun b hb => k198 b _ hb (by simp)
                       have Lo198 := Lst.of hv198 Bb198
                       have Lm198 := Lm190.keep fun b hb => k198 b _ hb (by simp)
                       have p198_22 := k198 _ _ p190_22 (by simp)
                       have p198_29 := k198 _ _ p190_29 (by simp)
                       have E198 := And.intro E190 (And.intro (b198 _ _ g17b) (And.intro gW198 hv198.cell1))
                       simp (disch := first | assumption | decide) only [go_sem, ↓reduceIte, dBy8, Int.toNat_natCast, KeepK, E198, p198_22, p198_29]
                       refine ⟨?_, ?_⟩
                       ·
                        intro q199 hq199; dsimp only at hq199
                        obtain ⟨Y199, hY199⟩ : ∃ Y, Y = upd Y198 q199 (some (.cells [.oslice 1 q190 0 en en] 26)) := ⟨_, rfl⟩
                        rw [← hY199]
                        have k199 := kU hY199 hq199
                        have gW199 := k199 _ _ gW198
                        have b199 := Sub.trans b198 k199
                        have Lc199 := Lc198.keep fun b => k199 b _
                        have Lo199 := Lo198.keep fun b => k199 b _
                        have Lm199 := Lm198.keep fun b => k199 b _
                        have p199_22 := k199 _ _ p198_22
                        have p199_29 := k199 _ _ p198_29
                        have p199_30 := (congrFun hY199 q199).trans (upd_same _ _ _)
                        have E199 := And.intro E198 (And.intro (b199 _ _ g17b) gW199)
                        simp (disch := first | assumption | decide) only [go_sem, ↓reduceIte, dBy8, Int.toNat_natCast, KeepK, E199, p199_22, p199_29, p199_30]
                        obtain ⟨B200, Ba200, Bb200, Bc200, Bd200⟩ := Lc199.own b199
                        refine OwnJ.append (m := 1) Ba200 rfl ?_ fun v200 Y200 hv200 => ?_
                        · omega
                        have k200 := kA hv200 Bd200
                        have gW200 := k200 r _ gW199 (by simp)
                        have b200 := Sub.trans Bb200 hv200.sub
                        have Lc200 := Lst.of hv200 Bb200
                        have Lo200 := Lo199.keep fun b hb => k200 b _ hb (by simp)
                        have Lm200 := Lm199.keep fun b hb => k200 b _ hb (by simp)
                        have p200_29 := k200 _ _ p199_29 (by simp)
                        have p200_30 := k200 _ _ p199_30 (by simp)
                        have E200 := And.intro E199 (And.intro (b200 _ _ g17b) (And.intro gW200 hv200.cell1))
                        simp (disch := first | assumption | decide) only [go_sem, ↓reduceIte, dBy8, Int.toNat_natCast, KeepK, E200, p200_29, p200_30]
                        obtain ⟨B201, Ba201, Bb201, Bc201, Bd201⟩ := Lm200.own b200
                        refine OwnJ.append (m := 1) Ba201 rfl ?_ fun v201 Y201 hv201 => ?_
                        · omega
                        have k201 := kA hv201 Bd201
                        have gW201 := k201 r _ gW200 (by simp)
                        have b201 := Sub.trans Bb201 hv201.sub
                        have Lc201 := Lc200.keep fun b hb => k201 b _ hb (by simp)
                        have Lo201 := Lo200.keep fun b hb => k201 b _ hb (by simp)
                        have Lm201 := Lst.of hv201 Bb201
                        have p201_29 := k201 _ _ p200_29 (by simp)
                        have E201 := And.intro E200 (And.intro (b201 _ _ g17b) (And.intro gW201 hv201.cell1))
                        simp (disch := first | assumption | decide) only [go_sem, ↓reduceIte, dBy8, Int.toNat_natCast, KeepK, E201, p201_29]
                        exact ⟨by rw [wC_len hnl]; omega, by rw [wC_len hnl]; omega, SetUp.step hbs hn29 gW201 b201 Lc201 Lo201 Lm201 p201_29 (Sub.lo b189 hq190)⟩
                       ·
                        obtain ⟨B205, Ba205, Bb205, Bc205, Bd205⟩ := Lc198.own b198
                        refine OwnJ.append (m := 1) Ba205 rfl ?_ fun v205 Y205 hv205 => ?_
                        · omega
                        have k205 := kA hv205 Bd205
                        have gW205 := k205 r _ gW198 (by simp)
                        have b205 := Sub.trans Bb205 hv205.sub
                        have Lc205 := Lst.of hv205 Bb205
                        have Lo205 := Lo198.keep fun b hb => k205 b _ hb (by simp)
                        have Lm205 := Lm198.keep fun b hb => k205 b _ hb (by simp)
                        have p205_29 := k205 _ _ p198_29 (by simp)
                        have E205 := And.intro E198 (And.intro (b205 _ _ g17b) (And.intro gW205 hv205.cell1))
                        simp (disch := first | assumption | decide) only [go_sem, ↓reduceIte, dBy8, Int.toNat_natCast, KeepK, E205, p205_29]
                        intro q206 hq206; dsimp only at hq206
                        obtain ⟨Y206, hY206⟩ : ∃ Y, Y = upd Y205 q206 (some (.cells [.oslice 1 q190 0 en en] 26)) := ⟨_, rfl⟩
                        rw [← hY206]
                        have k206 := kU hY206 hq206
                        have gW206 := k206 _ _ gW205
                        have b206 := Sub.trans b205 k206
                        have Lc206 := Lc205.keep fun b => k206 b _
                        have Lo206 := Lo205.keep fun b => k206 b _
                        have Lm206 := Lm205.keep fun b => k206 b _
                        have p206_29 := k206 _ _ p205_29
                        have p206_30 := (congrFun hY206 q206).trans (upd_same _ _ _)
                        have E206 := And.intro E205 (And.intro (b206 _ _ g17b) gW206)
                        simp (disch := first | assumption | decide) only [go_sem, ↓reduceIte, dBy8, Int.toNat_natCast, KeepK, E206, p206_29, p206_30]
                        obtain ⟨B207, Ba207, Bb207, Bc207, Bd207⟩ := Lm206.own b206
                        refine OwnJ.append (m := 1) Ba207 rfl ?_ fun v207 Y207 hv207 => ?_
                        · omega
                        have k207 := kA hv207 Bd207
                        have gW207 := k207 r _ gW206 (by simp)
                        have b207 := Sub.trans Bb207 hv207.sub
                        have Lc207 := Lc206.keep fun b hb => k207 b _ hb (by simp)
                        have Lo207 := Lo206.keep fun b hb => k207 b _ hb (by simp)
                        have Lm207 := Lst.of hv207 Bb207
                        have p207_29 := k207 _ _ p206_29 (by simp)
                        have E207 := And.intro E206 (And.intro (b207 _ _ g17b) (And.intro gW207 hv207.cell1))
                        simp (disch := first | assumption | decide) only [go_sem, ↓reduceIte, dBy8, Int.toNat_natCast, KeepK, E207, p207_29]
                        exact ⟨by rw [wC_len hnl]; omega, by rw [wC_len hnl]; omega, SetUp.step hbs hn29 gW207 b207 Lc207 Lo207 Lm207 p207_29 (Sub.lo b189 hq190)⟩
                     ·
                      obtain ⟨B211, Ba211, Bb211, Bc211, Bd211⟩ := Lo189.own b189
                      refine OwnJ.append (m := 1) Ba211 rfl ?_ fun v211 Y211 hv211 => ?_
                      · omega
                      have k211 := kA hv211 Bd211
                      have gW211 := k211 r _ gW189 (by simp)
                      have b211 := Sub.trans Bb211 hv211.sub
                      have Lc211 := Lc189.keep fun b hb => k211 b _ hb (by simp)
                      have Lo211 := Lst.of hv211 Bb211
                      have Lm211 := Lm189.keep fun b hb => k211 b _ hb (by simp)
                      have p211_22 := k211 _ _ p189_22 (by simp)
                      have E211 := And.intro E189 (And.intro (b211 _ _ g17b) (And.intro gW211 hv211.cell1))
                      simp (disch := first | assumption | decide) only [go_sem, ↓reduceIte, dBy8, Int.toNat_natCast, KeepK, E211, p211_22]
                      refine ⟨?_, ?_⟩
                      ·
                       intro q212 hq212; dsimp only at hq212
                       obtain ⟨Y212, hY212⟩ : ∃ Y, Y = upd Y211 q212 (some (.cells (List.replicate en .nilSlice) 27)) := ⟨_, rfl⟩
                       rw [← hY212]
                       have k212 := kU hY212 hq212
                       have gW212 := k212 _ _ gW211
                       have b212 := Sub.trans b211 k212
                       have Lc212 := Lc211.keep fun b => k212 b _
                       have Lo212 := Lo211.keep fun b => k212 b _
                       have Lm212 := Lm211.keep fun b => k212 b _
                       have p212_22 := k212 _ _ p211_22
                       have p212_29 := (congrFun hY212 q212).trans (upd_same _ _ _)
                       have E212 := And.intro E211 (And.intro (b212 _ _ g17b) gW212)
                       simp (disch := first | assumption | decide) only [go_sem, ↓reduceIte, dBy8, Int.toNat_natCast, KeepK, E212, p212_22, p212_29]
                       refine ⟨?_, ?_⟩
                       ·
                        intro q213 hq213; dsimp only at hq213
                        obtain ⟨Y213, hY213⟩ : ∃ Y, Y = upd Y212 q213 (some (.cells [.oslice 1 q212 0 en en] 26)) := ⟨_, rfl⟩
                        rw [← hY213]
                        have k213 := kU hY213 hq213
                        have gW213 := k213 _ _ gW212
                        have b213 := Sub.trans b212 k213
                        have Lc213 := Lc212.keep fun b => k213 b _
                        have Lo213 := Lo212.keep fun b => k213 b _
                        have Lm213 := Lm212.keep fun b => k213 b _
                        have p213_22 := k213 _ _ p212_22
                        have p213_29 := k213 _ _ p212_29
                        have p213_30 := (congrFun hY213 q213).trans (upd_same _ _ _)
                        have E213 := And.intro E212 (And.intro (b213 _ _ g17b) gW213)
                        simp (disch := first | assumption | decide) only [go_sem, ↓reduceIte, dBy8, Int.toNat_natCast, KeepK, E213, p213_22, p213_29, p213_30]
                        obtain ⟨B214, Ba214, Bb214, Bc214, Bd214⟩ := Lc213.own b213
                        refine OwnJ.append (m := 1) Ba214 rfl ?_ fun v214 Y214 hv214 => ?_
                        · omega
                        have k214 := kA hv214 Bd214
                        have gW214 := k214 r _ gW213 (by simp)
                        have b214 := Sub.trans Bb214 hv214.sub
                        have Lc214 := Lst.of hv214 Bb214
                        have Lo214 := Lo213.keep fun b hb => k214 b _ hb (by simp)
                        have Lm214 := Lm213.keep fun b hb => k214 b _ hb (by simp)
                        have p214_29 := k214 _ _ p213_29 (by simp)
                        have p214_30 := k214 _ _ p213_30 (by simp)
                        have E214 := And.intro E213 (And.intro (b214 _ _ g17b) (And.intro gW214 hv214.cell1))
                        simp (disch := first | assumption | decide) only [go_sem, ↓reduceIte, dBy8, Int.toNat_natCast, KeepK, E214, p214_29, p214_30]
                        obtain ⟨B215, Ba215, Bb215, Bc215, Bd215⟩ := Lm214.own b214
                        refine OwnJ.append (m := 1) Ba215 rfl ?_ fun v215 Y215 hv215 => ?_
                        · omega
                        have k215 := kA hv215 Bd215
                        have gW215 := k215 r _ gW214 (by simp)
                        have b215 := Sub.trans Bb215 hv215.sub
                        have Lc215 := Lc214.keep fun b hb => k215 b _ hb (by simp)
                        have Lo215 := Lo214.keep fun b hb => k215 b _ hb (by simp)
                        have Lm215 := Lst.of hv215 Bb215
                        have p215_29 := k215 _ _ p214_29 (by simp)
                        have E215 := And.intro E214 (And.intro (b215 _ _ g17b) (And.intro gW215 hv215.cell1))
                        simp (disch := first | assumption | decide) only [go_sem, ↓reduceIte, dBy8, Int.toNat_natCast, KeepK, E215, p215_29]
                        exact ⟨by rw [wC_len hnl]; omega, by rw [wC_len hnl]; omega, SetUp.step hbs hn29 gW215 b215 Lc215 Lo215 Lm215 p215_29 (Sub.lo b211 hq212)⟩
                       ·
                        obtain ⟨B219, Ba219, Bb219, Bc219, Bd219⟩ := Lc212.own b212
                        refine OwnJ.append (m := 1) Ba219 rfl ?_ fun v219 Y219 hv219 => ?_
                        · omega
                        have k219 := kA hv219 Bd219
                        have gW219 := k219 r _ gW212 (by simp)
                        have b219 := Sub.trans Bb219 hv219.sub
                        have Lc219 := Lst.of hv219 Bb219
                        have Lo219 := Lo212.keep fun b hb => k219 b _ hb (by simp)
                        have Lm219 := Lm212.keep fun b hb => k219 b _ hb (by simp)
                        have p219_29 := k219 _ _ p212_29 (by simp)
                        have E219 := And.intro E212 (And.intro (b219 _ _ g17b) (And.intro gW219 hv219.cell1))
                        simp (disch := first | assumption | decide) only [go_sem, ↓reduceIte, dBy8, Int.toNat_natCast, KeepK, E219, p219_29]
                        intro q220 hq220; dsimp only at hq220
                        obtain ⟨Y220, hY220⟩ : ∃ Y, Y = upd Y219 q220 (some (.cells [.oslice 1 q212 0 en en] 26)) := ⟨_, rfl⟩
                        rw [← hY220]
                        have k220 := kU hY220 hq220
                        have gW220 := k220 _ _ gW219
                        have b220 := Sub.trans b219 k220
                        have Lc220 := Lc219.keep fun b => k220 b _
                        have Lo220 := Lo219.keep fun b => k220 b _
                        have Lm220 := Lm219.keep fun b => k220 b _
                        have p220_29 := k220 _ _ p219_29
                        have p220_30 := (congrFun hY220 q220).trans (upd_same _ _ _)
                        have E220 := And.intro E219 (And.intro (b220 _ _ g17b) gW220)
                        simp (disch := first | assumption | decide) only [go_sem, ↓reduceIte, dBy8, Int.toNat_natCast, KeepK, E220, p220_29, p220_30]
                        obtain ⟨B221, Ba221, Bb221, Bc221, Bd221⟩ := Lm220.own b220
                        refine OwnJ.append (m := 1) Ba221 rfl ?_ fun v221 Y221 hv221 => ?_
                        · omega
                        have k221 := kA hv221 Bd221
                        have gW221 := k221 r _ gW220 (by simp)
                        have b221 := Sub.trans Bb221 hv221.sub
                        have Lc221 := Lc220.keep fun b hb => k221 b _ hb (by simp)
                        have Lo221 := Lo220.keep fun b hb => k221 b _ hb (by simp)
                        have Lm221 := Lst.of hv221 Bb221
                        have p221_29 := k221 _ _ p220_29 (by simp)
                        have E221 := And.intro E220 (And.intro (b221 _ _ g17b) (And.intro gW221 hv221.cell1))
                        simp (disch := first | assumption | decide) only [go_sem, ↓reduceIte, dBy8, Int.toNat_natCast, KeepK, E221, p221_29]
                        exact ⟨by rw [wC_len hnl]; omega, by rw [wC_len hnl]; omega, SetUp.step hbs hn29 gW221 b221 Lc221 Lo221 Lm221 p221_29 (Sub.lo b211 hq212)⟩
                      ·
                       obtain ⟨B225, Ba225, Bb225, Bc225, Bd225⟩ := Lc211.own b211
                       refine OwnJ.append (m := 1) Ba225 rfl ?_ fun v225 Y225 hv225 => ?_
                       · omega
                       have k225 := kA hv225 Bd225
                       have gW225 := k225 r _ gW211 (by simp)
                       have b225 := Sub.trans Bb225 hv225.sub
                       have Lc225 := Lst.of hv225 Bb225
                       have Lo225 := Lo211.keep fun b hb => k225 b _ hb (by simp)
                       have Lm225 := Lm211.keep fun b hb => k225 b _ hb (by simp)
                       have E225 := And.intro E211 (And.intro (b225 _ _ g17b) (And.intro gW225 hv225.cell1))
                       simp (disch := first | assumption | decide) only [go_sem, ↓reduceIte, dBy8, Int.toNat_natCast, KeepK, E225]
                       intro q226 hq226; dsimp only at hq226
                       obtain ⟨Y226, hY226⟩ : ∃ Y, Y = upd Y225 q226 (some (.cells (List.replicate en .nilSlice) 27)) := ⟨_, rfl⟩
                       rw [← hY226]
                       have k226 := kU hY226 hq226
                       have gW226 := k226 _ _ gW225
                       have b226 := Sub.trans b225 k226
                       have Lc226 := Lc225.keep fun b => k226 b _
                       have Lo226 := Lo225.keep fun b => k226 b _
                       have Lm226 := Lm225.keep fun b => k226 b _
                       have p226_29 := (congrFun hY226 q226).trans (upd_same _ _ _)
                       have E226 := And.intro E225 (And.intro (b226 _ _ g17b) gW226)
                       simp (disch := first | assumption | decide) only [go_sem, ↓reduceIte, dBy8, Int.toNat_natCast, KeepK, E226, p226_29]
                       intro q227 hq227; dsimp only at hq227
                       obtain ⟨Y227, hY227⟩ : ∃ Y, Y = upd Y226 q227 (some (.cells [.oslice 1 q226 0 en en] 26)) := ⟨_, rfl⟩
                       rw [← hY227]
                       have k227 := kU hY227 hq227
                       have gW227 := k227 _ _ gW226
                       have b227 := Sub.trans b226 k227
                       have Lc227 := Lc226.keep fun b => k227 b _
                       have Lo227 := Lo226.keep fun b => k227 b _
                       have Lm227 := Lm226.keep fun b => k227 b _
                       have p227_29 := k227 _ _ p226_29
                       have p227_30 := (congrFun hY227 q227).trans (upd_same _ _ _)
                       have E227 := And.intro E226 (And.intro (b227 _ _ g17b) gW227)
                       simp (disch := first | assumption | decide) only [go_sem, ↓reduceIte, dBy8, Int.toNat_natCast, KeepK, E227, p227_29, p227_30]
                       obtain ⟨B228, Ba228, Bb228, Bc228, Bd228⟩ := Lm227.own b227
                       refine OwnJ.append (m := 1) Ba228 rfl ?_ fun v228 Y228 hv228 => ?_
                       · omega
                       have k228 := kA hv228 Bd228
                       have gW228 := k228 r _ gW227 (by simp)
                       have b228 := Sub.trans Bb228 hv228.sub
                       have Lc228 := Lc227.keep fun b hb => k228 b _ hb (by simp)
                       have Lo228 := Lo227.keep fun b hb => k228 b _ hb (by simp)
                       have Lm228 := Lst.of hv228 Bb228
                       have p228_29 := k228 _ _ p227_29 (by simp)
                       have E228 := And.intro E227 (And.intro (b228 _ _ g17b) (And.intro gW228 hv228.cell1))
                       simp (disch := first | assumption | decide) only [go_sem, ↓reduceIte, dBy8, Int.toNat_natCast, KeepK, E228, p228_29]
                       exact ⟨by rw [wC_len hnl]; omega, by rw [wC_len hnl]; omega, SetUp.step hbs hn29 gW228 b228 Lc228 Lo228 Lm228 p228_29 (Sub.lo b225 hq226)⟩
                    ·
                     refine ⟨?_, ?_⟩
                     ·
                      intro q232 hq232; dsimp only at hq232
                      obtain ⟨Y232, hY232⟩ : ∃ Y, Y = upd Y188 q232 (some (.cells (List.replicate en .nilSlice) 27)) := ⟨_, rfl⟩
                      rw [← hY232]
                      have k232 := kU hY232 hq232
                      have gW232 := k232 _ _ gW188
                      have b232 := Sub.trans b188 k232
                      have Lc232 := Lc188.keep fun b => k232 b _
                      have Lo232 := Lo188.keep fun b => k232 b _
                      have Lm232 := Lm188.keep fun b => k232 b _
                      have p232_8 := k232 _ _ p188_8
                      have p232_29 := (congrFun hY232 q232).trans (upd_same _ _ _)
                      have E232 := And.intro E188 (And.intro (b232 _ _ g17b) gW232)
                      simp (disch := first | assumption | decide) only [go_sem, ↓reduceIte, dBy8, Int.toNat_natCast, KeepK, E232, p232_8, p232_29]
                      refine ⟨?_, ?_⟩
                      ·
                       intro q233 hq233; dsimp only at hq233
                       obtain ⟨Y233, hY233⟩ : ∃ Y, Y = upd Y232 q233 (some (.cells [.int .i64 (ceilF bases users more k o)] 3)) := ⟨_, rfl⟩
                       rw [← hY233]
                       have k233 := kU hY233 hq233
                       have gW233 := k233 _ _ gW232
                       have b233 := Sub.trans b232 k233
                       have Lc233 := Lc232.keep fun b => k233 b _
                       have Lo233 := Lo232.keep fun b => k233 b _
                       have Lm233 := Lm232.keep fun b => k233 b _
                       have p233_8 := k233 _ _ p232_8
                       have p233_29 := k233 _ _ p232_29
                       have p233_22 := (congrFun hY233 q233).trans (upd_same _ _ _)
                       have E233 := And.intro E232 (And.intro (b233 _ _ g17b) gW233)
                       simp (disch := first | assumption | decide) only [go_sem, ↓reduceIte, dBy8, Int.toNat_natCast, KeepK, E233, p233_8, p233_29, p233_22]
                       refine ⟨?_, ?_⟩
                       ·
                        intro q234 hq234; dsimp only at hq234
                        obtain ⟨Y234, hY234⟩ : ∃ Y, Y = upd Y233 q234 (some (.cells [.oslice 1 q232 0 en en] 26)) := ⟨_, rfl⟩
                        rw [← hY234]
                        have k234 := kU hY234 hq234
                        have gW234 := k234 _ _ gW233
                        have b234 := Sub.trans b233 k234
                        have Lc234 := Lc233.keep fun b => k234 b _
                        have Lo234 := Lo233.keep fun b => k234 b _
                        have Lm234 := Lm233.keep fun b => k234 b _
                        have p234_8 := k234 _ _ p233_8
                        have p234_29 := k234 _ _ p233_29
                        have p234_22 := k234 _ _ p233_22
                        have p234_30 := (congrFun hY234 q234).trans (upd_same _ _ _)
                        have E234 := And.intro E233 (And.intro (b234 _ _ g17b) gW234)
                        simp (disch := first | assumption | decide) only [go_sem, ↓reduceIte, dBy8, Int.toNat_natCast, KeepK, E234, p234_8, p234_29, p234_22, p234_30]
                        obtain ⟨B235, Ba235, Bb235, Bc235, Bd235⟩ := Lo234.own b234
                        refine OwnJ.append (m := 1) Ba235 rfl ?_ fun v235 Y235 hv235 => ?_
                        · omega
                        have k235 := kA hv235 Bd235
                        have gW235 := k235 r _ gW234 (by simp)
                        have b235 := Sub.trans Bb235 hv235.sub
                        have Lc235 := Lc234.keep fun b hb => k235 b _ hb (by simp)
                        have Lo235 := Lst.of hv235 Bb235
                        have Lm235 := Lm234.keep fun b hb => k235 b _ hb (by simp)
                        have p235_29 := k235 _ _ p234_29 (by simp)
                        have p235_22 := k235 _ _ p234_22 (by simp)
                        have p235_30 := k235 _ _ p234_30 (by simp)
                        have E235 := And.intro E234 (And.intro (b235 _ _ g17b) (And.intro gW235 hv235.cell1))
                        simp (disch := first | assumption | decide) only [go_sem, ↓reduceIte, dBy8, Int.toNat_natCast, KeepK, E235, p235_29, p235_22, p235_30]
                        obtain ⟨B236, Ba236, Bb236, Bc236, Bd236⟩ := Lc235.own b235
                        refine OwnJ.append (m := 1) Ba236 rfl ?_ fun v236 Y236 hv236 => ?_
                        · omega
                        have k236 := kA hv236 Bd236
                        have gW236 := k236 r _ gW235 (by simp)
                        have b236 := Sub.trans Bb236 hv236.sub
                        have Lc236 := Lst.of hv236 Bb236
                        have Lo236 := Lo235.keep fun b hb => k236 b _ hb (by simp)
                        have Lm236 := Lm235.keep fun b hb => k236 b _ hb (by simp)
                        have p236_29 := k236 _ _ p235_29 (by simp)
                        have p236_30 := k236 _ _ p235_30 (by simp)
                        have E236 := And.intro E235 (And.intro (b236 _ _ g17b) (And.intro gW236 hv236.cell1))
                        simp (disch := first | assumption | decide) only [go_sem, ↓reduceIte, dBy8, Int.toNat_natCast, KeepK, E236, p236_29, p236_30]
                        obtain ⟨B237, Ba237, Bb237, Bc237, Bd237⟩ := Lm236.own b236
                        refine OwnJ.append (m := 1) Ba237 rfl ?_ fun v237 Y237 hv237 => ?_
                        · omega
                        have k237 := kA hv237 Bd237
                        have gW237 := k237 r _ gW236 (by simp)
                        have b237 := Sub.trans Bb237 hv237.sub
                        have Lc237 := Lc236.keep fun b hb => k237 b _ hb (by simp)
                        have Lo237 := Lo236.keep fun b hb => k237 b _ hb (by simp)
                        have Lm237 := Lst.of hv237 Bb237
                        have p237_29 := k237 _ _ p236_29 (by simp)
                        have E237 := And.intro E236 (And.intro (b237 _ _ g17b) (And.intro gW237 hv237.cell1))
                        simp (disch := first | assumption | decide) only [go_sem, ↓reduceIte, dBy8, Int.toNat_natCast, KeepK, E237, p237_29]
                        exact ⟨by rw [wC_len hnl]; omega, by rw [wC_len hnl]; omega, SetUp.step hbs hn29 gW237 b237 Lc237 Lo237 Lm237 p237_29 (Sub.lo b188 hq232)⟩
                       ·
                        obtain ⟨B241, Ba241, Bb241, Bc241, Bd241⟩ := Lo233.own b233
                        refine OwnJ.append (m := 1) Ba241 rfl ?_ fun v241 Y241 hv241 => ?_
                        · omega
                        have k241 := kA hv241 Bd241
                        have gW241 := k241 r _ gW233 (by simp)
                        have b241 := Sub.trans Bb241 hv241.sub
                        have Lc241 := Lc233.keep fun b hb => k241 b _ hb (by simp)
                        have Lo241 := Lst.of hv241 Bb241
                        have Lm241 := Lm233.keep fun b hb => k241 b _ hb (by simp)
                        have p241_29 := k241 _ _ p233_29 (by simp)
                        have p241_22 := k241 _ _ p233_22 (by simp)
                        have E241 := And.intro E233 (And.intro (b241 _ _ g17b) (And.intro gW241 hv241.cell1))
                        simp (disch := first | assumption | decide) only [go_sem, ↓reduceIte, dBy8, Int.toNat_natCast, KeepK, E241, p241_29, p241_22]
                        refine ⟨?_, ?_⟩
                        ·
                         intro q242 hq242; dsimp only at hq242
                         obtain ⟨Y242, hY242⟩ : ∃ Y, Y = upd Y241 q242 (some (.cells [.oslice 1 q232 0 en en] 26)) := ⟨_, rfl⟩
                         rw [← hY242]
                         have k242 := kU hY242 hq242
                         have gW242 := k242 _ _ gW241
                         have b242 := Sub.trans b241 k242
                         have Lc242 := Lc241.keep fun b => k242 b _
                         have Lo242 := Lo241.keep fun b => k242 b _
                         have Lm242 := Lm241.keep fun b => k242 b _
                         have p242_29 := k242 _ _ p241_29
                         have p242_22 := k242 _ _ p241_22
                         have p242_30 := (congrFun hY242 q242).trans (upd_same _ _ _)
                         have E242 := And.intro E241 (And.intro (b242 _ _ g17b) gW242)
                         simp (disch := first | assumption | decide) only [go_sem, ↓reduceIte, dBy8, Int.toNat_natCast, KeepK, E242, p242_29, p242_22, p242_30]
                         obtain ⟨B243, Ba243, Bb243, Bc243, Bd243⟩ := Lc242.own b242
                         refine OwnJ.append (m := 1) Ba243 rfl ?_ fun v243 Y243 hv243 => ?_
                         · omega
                         have k243 := kA hv243 Bd243
                         have gW243 := k243 r _ gW242 (by simp)
                         have b243 := Sub.trans Bb243 hv243.sub
                         have Lc243 := Lst.of hv243 Bb243
                         have Lo243 := Lo242.keep fun b hb => k243 b _ hb (by simp)
                         have Lm243 := Lm242.keep fun b hb => k243 b _ hb (by simp)
                         have p243_29 := k243 _ _ p242_29 (by simp)
                         have p243_30 := k243 _ _ p242_30 (by simp)
                         have E243 := And.intro E242 (And.intro (b243 _ _ g17b) (And.intro gW243 hv243.cell1))
                         simp (disch := first | assumption | decide) only [go_sem, ↓reduceIte, dBy8, Int.toNat_natCast, KeepK, E243, p243_29, p243_30]
                         obtain ⟨B244, Ba244, Bb244, Bc244, Bd244⟩ := Lm243.own b243
                         refine OwnJ.append (m := 1) Ba244 rfl ?_ fun v244 Y244 hv244 => ?_
                         · omega
                         have k244 := kA hv244 Bd244
                         have gW244 := k244 r _ gW243 (by simp)
                         have b244 := Sub.trans Bb244 hv244.sub
                         have Lc244 := Lc243.keep fun b hb => k244 b _ hb (by simp)
                         have Lo244 := Lo243.keep fun b hb => k244 b _ hb (by simp)
                         have Lm244 := Lst.of hv244 Bb244
                         have p244_29 := k244 _ _ p243_29 (by simp)
                         have E244 := And.intro E243 (And.intro (b244 _ _ g17b) (And.intro gW244 hv244.cell1))
                         simp (disch := first | assumption | decide) only [go_sem, ↓reduceIte, dBy8, Int.toNat_natCast, KeepK, E244, p244_29]
                         exact ⟨by rw [wC_len hnl]; omega, by rw [wC_len hnl]; omega, SetUp.step hbs hn29 gW244 b244 Lc244 Lo244 Lm244 p244_29 (Sub.lo b188 hq232)⟩
                        ·
                         obtain ⟨B248, Ba248, Bb248, Bc248, Bd248⟩ := Lc241.own b241
                         refine OwnJ.append (m := 1) Ba248 rfl ?_ fun v248 Y248 hv248 => ?_
                         · omega
                         have k248 := kA hv248 Bd248
                         have gW248 := k248 r _ gW241 (by simp)
                         have b248 := Sub.trans Bb248 hv248.sub
                         have Lc248 := Lst.of hv248 Bb248
                         have Lo248 := Lo241.keep fun b hb => k248 b _ hb (by simp)
                         have Lm248 := Lm241.keep fun b hb => k248 b _ hb (by simp)
                         have p248_29 := k248 _ _ p241_29 (by simp)
                         have E248 := And.intro E241 (And.intro (b248 _ _ g17b) (And.intro gW248 hv248.cell1))
                         simp (disch := first | assumption | decide) only [go_sem, ↓reduceIte, dBy8, Int.toNat_natCast, KeepK, E248, p248_29]
                         intro q249 hq249; dsimp only at hq249
                         obtain ⟨Y249, hY249⟩ : ∃ Y, Y = upd Y248 q249 (some (.cells [.oslice 1 q232 0 en en] 26)) := ⟨_, rfl⟩
                         rw [← hY249]
                         have k249 := kU hY249 hq249
                         have gW249 := k249 _ _ gW248
                         have b249 := Sub.trans b248 k249
                         have Lc249 := Lc248.keep fun b => k249 b _
                         have Lo249 := Lo248.keep fun b => k249 b _
                         have Lm249 := Lm248.keep fun b => k249 b _
                         have p249_29 := k249 _ _ p248_29
                         have p249_30 := (congrFun hY249 q249).trans (upd_same _ _ _)
                         have E249 := And.intro E248 (And.intro (b249 _ _ g17b) gW249)
                         simp (disch := first | assumption | decide) only [go_sem, ↓reduceIte, dBy8, Int.toNat_natCast, KeepK, E249, p249_29, p249_30]
                         obtain ⟨B250, Ba250, Bb250, Bc250, Bd250⟩ := Lm249.own b249
                         refine OwnJ.append (m := 1) Ba250 rfl ?_ fun v250 Y250 hv250 => ?_
                         · omega
                         have k250 := kA hv250 Bd250
                         have gW250 := k250 r _ gW249 (by simp)
                         have b250 := Sub.trans Bb250 hv250.sub
                         have Lc250 := Lc249.keep fun b hb => k250 b _ hb (by simp)
                         have Lo250 := Lo249.keep fun b hb => k250 b _ hb (by simp)
                         have Lm250 := Lst.of hv250 Bb250
                         have p250_29 := k250 _ _ p249_29 (by simp)
                         have E250 := And.intro E249 (And.intro (b250 _ _ g17b) (And.intro gW250 hv250.cell1))
                         simp (disch := first | assumption | decide) only [go_sem, ↓reduceIte, dBy8, Int.toNat_natCast, KeepK, E250, p250_29]
                         exact ⟨by rw [wC_len hnl]; omega, by rw [wC_len hnl]; omega, SetUp.step hbs hn29 gW250 b250 Lc250 Lo250 Lm250 p250_29 (Sub.lo b188 hq232)⟩
                      ·
                       refine ⟨?_, ?_⟩
                       ·
                        intro q254 hq254; dsimp only at hq254
                        obtain ⟨Y254, hY254⟩ : ∃ Y, Y = upd Y232 q254 (some (.cells [.oslice 1 q232 0 en en] 26)) := ⟨_, rfl⟩
                        rw [← hY254]
                        have k254 := kU hY254 hq254
                        have gW254 := k254 _ _ gW232
                        have b254 := Sub.trans b232 k254
                        have Lc254 := Lc232.keep fun b => k254 b _
                        have Lo254 := Lo232.keep fun b => k254 b _
                        have Lm254 := Lm232.keep fun b => k254 b _
                        have p254_8 := k254 _ _ p232_8
                        have p254_29 := k254 _ _ p232_29
                        have p254_30 := (congrFun hY254 q254).trans (upd_same _ _ _)
                        have E254 := And.intro E232 (And.intro (b254 _ _ g17b) gW254)
                        simp (disch := first | assumption | decide) only [go_sem, ↓reduceIte, dBy8, Int.toNat_natCast, KeepK, E254, p254_8, p254_29, p254_30]
                        refine ⟨?_, ?_⟩
                        ·
                         intro q255 hq255; dsimp only at hq255
                         obtain ⟨Y255, hY255⟩ : ∃ Y, Y = upd Y254 q255 (some (.cells [.int .i64 (ceilF bases users more k o)] 3)) := ⟨_, rfl⟩
                         rw [← hY255]
                         have k255 := kU hY255 hq255
                         have gW255 := k255 _ _ gW254
                         have b255 := Sub.trans b254 k255
                         have Lc255 := Lc254.keep fun b => k255 b _
                         have Lo255 := Lo254.keep fun b => k255 b _
                         have Lm255 := Lm254.keep fun b => k255 b _
                         have p255_8 := k255 _ _ p254_8
                         have p255_29 := k255 _ _ p254_29
                         have p255_30 := k255 _ _ p254_30
                         have p255_22 := (congrFun hY255 q255).trans (upd_same _ _ _)
                         have E255 := And.intro E254 (And.intro (b255 _ _ g17b) gW255)
                         simp (disch := first | assumption | decide) only [go_sem, ↓reduceIte, dBy8, Int.toNat_natCast, KeepK, E255, p255_8, p255_29, p255_30, p255_22]
                         obtain ⟨B256, Ba256, Bb256, Bc256, Bd256⟩ := Lo255.own b255
                         refine OwnJ.append (m := 1) Ba256 rfl ?_ fun v256 Y256 hv256 => ?_
                         · omega
                         have k256 := kA hv256 Bd256
                         have gW256 := k256 r _ gW255 (by simp)
                         have b256 := Sub.trans Bb256 hv256.sub
                         have Lc256 := Lc255.keep fun b hb => k256 b _ hb (by simp)
                         have Lo256 := Lst.of hv256 Bb256
                         have Lm256 := Lm255.keep fun b hb => k256 b _ hb (by simp)
                         have p256_29 := k256 _ _ p255_29 (by simp)
                         have p256_30 := k256 _ _ p255_30 (by simp)
                         have p256_22 := k256 _ _ p255_22 (by simp)
                         have E256 := And.intro E255 (And.intro (b256 _ _ g17b) (And.intro gW256 hv256.cell1))
                         simp (disch := first | assumption | decide) only [go_sem, ↓reduceIte, dBy8, Int.toNat_natCast, KeepK, E256, p256_29, p256_30, p256_22]
                         obtain ⟨B257, Ba257, Bb257, Bc257, Bd257⟩ := Lc256.own b256
                         refine OwnJ.append (m := 1) Ba257 rfl ?_ fun v257 Y257 hv257 => ?_
                         · omega
                         have k257 := kA hv257 Bd257
                         have gW257 := k257 r _ gW256 (by simp)
                         have b257 := Sub.trans Bb257 hv257.sub
                         have Lc257 := Lst.of hv257 Bb257
                         have Lo257 := Lo256.keep fun b hb => k257 b _ hb (by simp)
                         have Lm257 := Lm256.keep fun b hb => k257 b _ hb (by simp)
                         have p257_29 := k257 _ _ p256_29 (by simp)
                         have p257_30 := k257 _ _ p256_30 (by simp)
                         have E257 := And.intro E256 (And.intro (b257 _ _ g17b) (And.intro gW257 hv257.cell1))
                         simp (disch := first | assumption | decide) only [go_sem, ↓reduceIte, dBy8, Int.toNat_natCast, KeepK, E257, p257_29, p257_30]
                         obtain ⟨B258, Ba258, Bb258, Bc258, Bd258⟩ := Lm257.own b257
                         refine OwnJ.append (m := 1) Ba258 rfl ?_ fun v258 Y258 hv258 => ?_
                         · omega
                         have k258 := kA hv258 Bd258
                         have gW258 := k258 r _ gW257 (by simp)
                         have b258 := Sub.trans Bb258 hv258.sub
                         have Lc258 := Lc257.keep fun b hb => k258 b _ hb (by simp)
                         have Lo258 := Lo257.keep fun b hb => k258 b _ hb (by simp)
                         have Lm258 := Lst.of hv258 Bb258
                         have p258_29 := k258 _ _ p257_29 (by simp)
                         have E258 := And.intro E257 (And.intro (b258 _ _ g17b) (And.intro gW258 hv258.cell1))
                         simp (disch := first | assumption | decide) only [go_sem, ↓reduceIte, dBy8, Int.toNat_natCast, KeepK, E258, p258_29]
                         exact ⟨by rw [wC_len hnl]; omega, by rw [wC_len hnl]; omega, SetUp.step hbs hn29 gW258 b258 Lc258 Lo258 Lm258 p258_29 (Sub.lo b188 hq232)⟩
                        ·
                         obtain ⟨B262, Ba262, Bb262, Bc262, Bd262⟩ := Lo254.own b254
                         refine OwnJ.append (m := 1) Ba262 rfl ?_ fun v262 Y262 hv262 => ?_
                         · omega
                         have k262 := kA hv262 Bd262
                         have gW262 := k262 r _ gW254 (by simp)
                         have b262 := Sub.trans Bb262 hv262.sub
                         have Lc262 := Lc254.keep fun b hb => k262 b _ hb (by simp)
                         have Lo262 := Lst.of hv262 Bb262
                         have Lm262 := Lm254.keep fun b hb => k262 b _ hb (by simp)
                         have p262_29 := k262 _ _ p254_29 (by simp)
                         have p262_30 := k262 _ _ p254_30 (by simp)
                         have E262 := And.intro E254 (And.intro (b262 _ _ g17b) (And.intro gW262 hv262.cell1))
                         simp (disch := first | assumption | decide) only [go_sem, ↓reduceIte, dBy8, Int.toNat_natCast, KeepK, E262, p262_29, p262_30]
                         intro q263 hq263; dsimp only at hq263
                         obtain ⟨Y263, hY263⟩ : ∃ Y, Y = upd Y262 q263 (some (.cells [.int .i64 (ceilF bases users more k o)] 3)) := ⟨_, rfl⟩
                         rw [← hY263]
                         have k263 := kU hY263 hq263
                         have gW263 := k263 _ _ gW262
                         have b263 := Sub.trans b262 k263
                         have Lc263 := Lc262.keep fun b => k263 b _
                         have Lo263 := Lo262.keep fun b => k263 b _
                         have Lm263 := Lm262.keep fun b => k263 b _
                         have p263_29 := k263 _ _ p262_29
                         have p263_30 := k263 _ _ p262_30
                         have p263_22 := (congrFun hY263 q263).trans (upd_same _ _ _)
                         have E263 := And.intro E262 (And.intro (b263 _ _ g17b) gW263)
                         simp (disch := first | assumption | decide) only [go_sem, ↓reduceIte, dBy8, Int.toNat_natCast, KeepK, E263, p263_29, p263_30, p263_22]
                         obtain ⟨B264, Ba264, Bb264, Bc264, Bd264⟩ := Lc263.own b263
                         refine OwnJ.append (m := 1) Ba264 rfl ?_ fun v264 Y264 hv264 => ?_
                         · omega
                         have k264 := kA hv264 Bd264
                         have gW264 := k264 r _ gW263 (by simp)
                         have b264 := Sub.trans Bb264 hv264.sub
                         have Lc264 := Lst.of hv264 Bb264
                         have Lo264 := Lo263.keep fun b hb => k264 b _ hb (by simp)
                         have Lm264 := Lm263.keep fun b hb => k264 b _ hb (by simp)
                         have p264_29 := k264 _ _ p263_29 (by simp)
                         have p264_30 := k264 _ _ p263_30 (by simp)
                         have E264 := And.intro E263 (And.intro (b264 _ _ g17b) (And.intro gW264 hv264.cell1))
                         simp (disch := first | assumption | decide) only [go_sem, ↓reduceIte, dBy8, Int.toNat_natCast, KeepK, E264, p264_29, p264_30]
                         obtain ⟨B265, Ba265, Bb265, Bc265, Bd265⟩ := Lm264.own b264
                         refine OwnJ.append (m := 1) Ba265 rfl ?_ fun v265 Y265 hv265 => ?_
                         · omega
                         have k265 := kA hv265 Bd265
                         have gW265 := k265 r _ gW264 (by simp)
                         have b265 := Sub.trans Bb265 hv265.sub
                         have Lc265 := Lc264.keep fun b hb => k265 b _ hb (by simp)
                         have Lo265 := Lo264.keep fun b hb => k265 b _ hb (by simp)
                         have Lm265 := Lst.of hv265 Bb265
                         have p265_29 := k265 _ _ p264_29 (by simp)
                         have E265 := And.intro E264 (And.intro (b265 _ _ g17b) (And.intro gW265 hv265.cell1))
                         simp (disch := first | assumption | decide) only [go_sem, ↓reduceIte, dBy8, Int.toNat_natCast, KeepK, E265, p265_29]
                         exact ⟨by rw [wC_len hnl]; omega, by rw [wC_len hnl]; omega, SetUp.step hbs hn29 gW265 b265 Lc265 Lo265 Lm265 p265_29 (Sub.lo b188 hq232)⟩
                       ·
                        obtain ⟨B269, Ba269, Bb269, Bc269, Bd269⟩ := Lo232.own b232
                        refine OwnJ.append (m := 1) Ba269 rfl ?_ fun v269 Y269 hv269 => ?_
                        · omega
                        have k269 := kA hv269 Bd269
                        have gW269 := k269 r _ gW232 (by simp)
                        have b269 := Sub.trans Bb269 hv269.sub
                        have Lc269 := Lc232.keep fun b hb => k269 b _ hb (by simp)
                        have Lo269 := Lst.of hv269 Bb269
                        have Lm269 := Lm232.keep fun b hb => k269 b _ hb (by simp)
                        have p269_29 := k269 _ _ p232_29 (by simp)
                        have E269 := And.intro E232 (And.intro (b269 _ _ g17b) (And.intro gW269 hv269.cell1))
                        simp (disch := first | assumption | decide) only [go_sem, ↓reduceIte, dBy8, Int.toNat_natCast, KeepK, E269, p269_29]
                        refine ⟨?_, ?_⟩
                        ·
                         intro q270 hq270; dsimp only at hq270
                         obtain ⟨Y270, hY270⟩ : ∃ Y, Y = upd Y269 q270 (some (.cells [.oslice 1 q232 0 en en] 26)) := ⟨_, rfl⟩
                         rw [← hY270]
                         have k270 := kU hY270 hq270
                         have gW270 := k270 _ _ gW269
                         have b270 := Sub.trans b269 k270
                         have Lc270 := Lc269.keep fun b => k270 b _
                         have Lo270 := Lo269.keep fun b => k270 b _
                         have Lm270 := Lm269.keep fun b => k270 b _
                         have p270_29 := k270 _ _ p269_29
                         have p270_30 := (congrFun hY270 q270).trans (upd_same _ _ _)
                         have E270 := And.intro E269 (And.intro (b270 _ _ g17b) gW270)
                         simp (disch := first | assumption | decide) only [go_sem, ↓reduceIte, dBy8, Int.toNat_natCast, KeepK, E270, p270_29, p270_30]
                         intro q271 hq271; dsimp only at hq271
                         obtain ⟨Y271, hY271⟩ : ∃ Y, Y = upd Y270 q271 (some (.cells [.int .i64 (ceilF bases users more k o)] 3)) := ⟨_, rfl⟩
                         rw [← hY271]
                         have k271 := kU hY271 hq271
                         have gW271 := k271 _ _ gW270
                         have b271 := Sub.trans b270 k271
                         have Lc271 := Lc270.keep fun b => k271 b _
                         have Lo271 := Lo270.keep fun b => k271 b _
                         have Lm271 := Lm270.keep fun b => k271 b _
                         have p271_29 := k271 _ _ p270_29
                         have p271_30 := k271 _ _ p270_30
                         have p271_22 := (congrFun hY271 q271).trans (upd_same _ _ _)
                         have E271 := And.intro E270 (And.intro (b271 _ _ g17b) gW271)
                         simp (disch := first | assumption | decide) only [go_sem, ↓reduceIte, dBy8, Int.toNat_natCast, KeepK, E271, p271_29, p271_30, p271_22]
                         obtain ⟨B272, Ba272, Bb272, Bc272, Bd272⟩ := Lc271.own b271
                         refine OwnJ.append (m := 1) Ba272 rfl ?_ fun v272 Y272 hv272 => ?_
                         · omega
                         have k272 := kA hv272 Bd272
                         have gW272 := k272 r _ gW271 (by simp)
                         have b272 := Sub.trans Bb272 hv272.sub
                         have Lc272 := Lst.of hv272 Bb272
                         have Lo272 := Lo271.keep fun b hb => k272 b _ hb (by simp)
                         have Lm272 := Lm271.keep fun b hb => k272 b _ hb (by simp)
                         have p272_29 := k272 _ _ p271_29 (by simp)
                         have p272_30 := k272 _ _ p271_30 (by simp)
                         have E272 := And.intro E271 (And.intro (b272 _ _ g17b) (And.intro gW272 hv272.cell1))
                         simp (disch := first | assumption | decide) only [go_sem, ↓reduceIte, dBy8, Int.toNat_natCast, KeepK, E272, p272_29, p272_30]
                         obtain ⟨B273, Ba273, Bb273, Bc273, Bd273⟩ := Lm272.own b272
                         refine OwnJ.append (m := 1) Ba273 rfl ?_ fun v273 Y273 hv273 => ?_
                         · omega
                         have k273 := kA hv273 Bd273
                         have gW273 := k273 r _ gW272 (by simp)
                         have b273 := Sub.trans Bb273 hv273.sub
                         have Lc273 := Lc272.keep fun b hb => k273 b _ hb (by simp)
                         have Lo273 := Lo272.keep fun b hb => k273 b _ hb (by simp)
                         have Lm273 := Lst.of hv273 Bb273
                         have p273_29 := k273 _ _ p272_29 (by simp)
                         have E273 := And.intro E272 (And.intro (b273 _ _ g17b) (And.intro gW273 hv273.cell1))
                         simp (disch := first | assumption | decide) only [go_sem, ↓reduceIte, dBy8, Int.toNat_natCast, KeepK, E273, p273_29]
                         exact ⟨by rw [wC_len hnl]; omega, by rw [wC_len hnl]; omega, SetUp.step hbs hn29 gW273 b273 Lc273 Lo273 Lm273 p273_29 (Sub.lo b188 hq232)⟩
                        ·
                         intro q277 hq277; dsimp only at hq277
                         obtain ⟨Y277, hY277⟩ : ∃ Y, Y = upd Y269 q277 (some (.cells [.int .i64 (ceilF bases users more k o)] 3)) := ⟨_, rfl⟩
                         rw [← hY277]
                         have k277 := kU hY277 hq277
                         have gW277 := k277 _ _ gW269
                         have b277 := Sub.trans b269 k277
                         have Lc277 := Lc269.keep fun b => k277 b _
                         have Lo277 := Lo269.keep fun b => k277 b _
                         have Lm277 := Lm269.keep fun b => k277 b _
                         have p277_29 := k277 _ _ p269_29
                         have p277_22 := (congrFun hY277 q277).trans (upd_same _ _ _)
                         have E277 := And.intro E269 (And.intro (b277 _ _ g17b) gW277)
                         simp (disch := first | assumption | decide) only [go_sem, ↓reduceIte, dBy8, Int.toNat_natCast, KeepK, E277, p277_29, p277_22]
                         refine ⟨?_, ?_⟩
                         ·
                          intro q278 hq278; dsimp only at hq278
                          obtain ⟨Y278, hY278⟩ : ∃ Y, Y = upd Y277 q278 (some (.cells [.oslice 1 q232 0 en en] 26)) := ⟨_, rfl⟩
                          rw [← hY278]
                          have k278 := kU hY278 hq278
                          have gW278 := k278 _ _ gW277
                          have b278 := Sub.trans b277 k278
                          have Lc278 := Lc277.keep fun b => k278 b _
                          have Lo278 := Lo277.keep fun b => k278 b _
                          have Lm278 := Lm277.keep fun b => k278 b _
                          have p278_29 := k278 _ _ p277_29
                          have p278_22 := k278 _ _ p277_22
                          have p278_30 := (congrFun hY278 q278).trans (upd_same _ _ _)
                          have E278 := And.intro E277 (And.intro (b278 _ _ g17b) gW278)
                          simp (disch := first | assumption | decide) only [go_sem, ↓reduceIte, dBy8, Int.toNat_natCast, KeepK, E278, p278_29, p278_22, p278_30]
                          obtain ⟨B279, Ba279, Bb279, Bc279, Bd279⟩ := Lc278.own b278
                          refine OwnJ.append (m := 1) Ba279 rfl ?_ fun v279 Y279 hv279 => ?_
                          · omega
                          have k279 := kA hv279 Bd279
                          have gW279 := k279 r _ gW278 (by simp)
                          have b279 := Sub.trans Bb279 hv279.sub
                          have Lc279 := Lst.of hv279 Bb279
                          have Lo279 := Lo278.keep fun b hb => k279 b _ hb (by simp)
                          have Lm279 := Lm278.keep fun b hb => k279 b _ hb (by simp)
                          have p279_29 := k279 _ _ p278_29 (by simp)
                          have p279_30 := k279 _ _ p278_30 (by simp)
                          have E279 := And.intro E278 (And.intro (b279 _ _ g17b) (And.intro gW279 hv279.cell1))
                          simp (disch := first | assumption | decide) only [go_sem, ↓reduceIte, dBy8, Int.toNat_natCast, KeepK, E279, p279_29, p279_30]
                          obtain ⟨B280, Ba280, Bb280, Bc280, Bd280⟩ := Lm279.own b279
                          refine OwnJ.append (m := 1) Ba280 rfl ?_ fun v280 Y280 hv280 => ?_
                          · omega
                          have k280 := kA hv280 Bd280
                          have gW280 := k280 r _ gW279 (by simp)
                          have b280 := Sub.trans Bb280 hv280.sub
                          have Lc280 := Lc279.keep fun b hb => k280 b _ hb (by simp)
                          have Lo280 := Lo279.keep fun b hb => k280 b _ hb (by simp)
                          have Lm280 := Lst.of hv280 Bb280
                          have p280_29 := k280 _ _ p279_29 (by simp)
                          have E280 := And.intro E279 (And.intro (b280 _ _ g17b) (And.intro gW280 hv280.cell1))
                          simp (disch := first | assumption | decide) only [go_sem, ↓reduceIte, dBy8, Int.toNat_natCast, KeepK, E280, p280_29]
                          exact ⟨by rw [wC_len hnl]; omega, by rw [wC_len hnl]; omega, SetUp.step hbs hn29 gW280 b280 Lc280 Lo280 Lm280 p280_29 (Sub.lo b188 hq232)⟩
                         ·
                          obtain ⟨B284, Ba284, Bb284, Bc284, Bd284⟩ := Lc277.own b277
                          refine OwnJ.append (m := 1) Ba284 rfl ?_ fun v284 Y284 hv284 => ?_
                          · omega
                          have k284 := kA hv284 Bd284
                          have gW284 := k284 r _ gW277 (by simp)
                          have b284 := Sub.trans Bb284 hv284.sub
                          have Lc284 := Lst.of hv284 Bb284
                          have Lo284 := Lo277.keep fun b hb => k284 b _ hb (by simp)
                          have Lm284 := Lm277.keep fun b hb => k284 b _ hb (by simp)
                          have p284_29 := k284 _ _ p277_29 (by simp)
                          have E284 := And.intro E277 (And.intro (b284 _ _ g17b) (And.intro gW284 hv284.cell1))
                          simp (disch := first | assumption | decide) only [go_sem, ↓reduceIte, dBy8, Int.toNat_natCast, KeepK, E284, p284_29]
                          intro q285 hq285; dsimp only at hq285
                          obtain ⟨Y285, hY285⟩ : ∃ Y, Y = upd Y284 q285 (some (.cells [.oslice 1 q232 0 en en] 26)) := ⟨_, rfl⟩
                          rw [← hY285]
                          have k285 := kU hY285 hq285
                          have gW285 := k285 _ _ gW284
                          have b285 := Sub.trans b284 k285
                          have Lc285 := Lc284.keep fun b => k285 b _
                          have Lo285 := Lo284.keep fun b => k285 b _
                          have Lm285 := Lm284.keep fun b => k285 b _
                          have p285_29 := k285 _ _ p284_29
                          have p285_30 := (congrFun hY285 q285).trans (upd_same _ _ _)
                          have E285 := And.intro E284 (And.intro (b285 _ _ g17b) gW285)
                          simp (disch := first | assumption | decide) only [go_sem, ↓reduceIte, dBy8, Int.toNat_natCast, KeepK, E285, p285_29, p285_30]
                          obtain ⟨B286, Ba286, Bb286, Bc286, Bd286⟩ := Lm285.own b285
                          refine OwnJ.append (m := 1) Ba286 rfl ?_ fun v286 Y286 hv286 => ?_
                          · omega
                          have k286 := kA hv286 Bd286
                          have gW286 := k286 r _ gW285 (by simp)
                          have b286 := Sub.trans Bb286 hv286.sub
                          have Lc286 := Lc285.keep fun b hb => k286 b _ hb (by simp)
                          have Lo286 := Lo285.keep fun b hb => k286 b _ hb (by simp)
                          have Lm286 := Lst.of hv286 Bb286
                          have p286_29 := k286 _ _ p285_29 (by simp)
                          have E286 := And.intro E285 (And.intro (b286 _ _ g17b) (And.intro gW286 hv286.cell1))
                          simp (disch := first | assumption | decide) only [go_sem, ↓reduceIte, dBy8, Int.toNat_natCast, KeepK, E286, p286_29]
                          exact ⟨by rw [wC_len hnl]; omega, by rw [wC_len hnl]; omega, SetUp.step hbs hn29 gW286 b286 Lc286 Lo286 Lm286 p286_29 (Sub.lo b188 hq232)⟩
                     ·
                      obtain ⟨B290, Ba290, Bb290, Bc290, Bd290⟩ := Lo188.own b188
                      refine OwnJ.append (m := 1) Ba290 rfl ?_ fun v290 Y290 hv290 => ?_
                      · omega
                      have k290 := kA hv290 Bd290
                      have gW290 := k290 r _ gW188 (by simp)
                      have b290 := Sub.trans Bb290 hv290.sub
                      have Lc290 := Lc188.keep fun b hb => k290 b _ hb (by simp)
                      have Lo290 := Lst.of hv290 Bb290
                      have Lm290 := Lm188.keep fun b hb => k290 b _ hb (by simp)
                      have E290 := And.intro E188 (And.intro (b290 _ _ g17b) (And.intro gW290 hv290.cell1))
                      simp (disch := first | assumption | decide) only [go_sem, ↓reduceIte, dBy8, Int.toNat_natCast, KeepK, E290]
                      refine ⟨?_, ?_⟩
                      ·
                       intro q291 hq291; dsimp only at hq291
                       obtain ⟨Y291, hY291⟩ : ∃ Y, Y = upd Y290 q291 (some (.cells (List.replicate en .nilSlice) 27)) := ⟨_, rfl⟩
                       rw [← hY291]
                       have k291 := kU hY291 hq291
                       have gW291 := k291 _ _ gW290
                       have b291 := Sub.trans b290 k291
                       have Lc291 := Lc290.keep fun b => k291 b _
                       have Lo291 := Lo290.keep fun b => k291 b _
                       have Lm291 := Lm290.keep fun b => k291 b _
                       have p291_29 := (congrFun hY291 q291).trans (upd_same _ _ _)
                       have E291 := And.intro E290 (And.intro (b291 _ _ g17b) gW291)
                       simp (disch := first | assumption | decide) only [go_sem, ↓reduceIte, dBy8, Int.toNat_natCast, KeepK, E291, p291_29]
                       refine ⟨?_, ?_⟩
                       ·
                        intro q292 hq292; dsimp only at hq292
                        obtain ⟨Y292, hY292⟩ : ∃ Y, Y = upd Y291 q292 (some (.cells [.oslice 1 q291 0 en en] 26)) := ⟨_, rfl⟩
                        rw [← hY292]
                        have k292 := kU hY292 hq292
                        have gW292 := k292 _ _ gW291
                        have b292 := Sub.trans b291 k292
                        have Lc292 := Lc291.keep fun b => k292 b _
                        have Lo292 := Lo291.keep fun b => k292 b _
                        have Lm292 := Lm291.keep fun b => k292 b _
                        have p292_29 := k292 _ _ p291_29
                        have p292_30 := (congrFun hY292 q292).trans (upd_same _ _ _)
                        have E292 := And.intro E291 (And.intro (b292 _ _ g17b) gW292)
                        simp (disch := first | assumption | decide) only [go_sem, ↓reduceIte, dBy8, Int.toNat_natCast, KeepK, E292, p292_29, p292_30]
                        intro q293 hq293; dsimp only at hq293
                        obtain ⟨Y293, hY293⟩ : ∃ Y, Y = upd Y292 q293 (some (.cells [.int .i64 (ceilF bases users more k o)] 3)) := ⟨_, rfl⟩
                        rw [← hY293]
                        have k293 := kU hY293 hq293
                        have gW293 := k293 _ _ gW292
                        have b293 := Sub.trans b292 k293
                        have Lc293 := Lc292.keep fun b => k293 b _
                        have Lo293 := Lo292.keep fun b => k293 b _
                        have Lm293 := Lm292.keep fun b => k293 b _
                        have p293_29 := k293 _ _ p292_29
                        have p293_30 := k293 _ _ p292_30
                        have p293_22 := (congrFun hY293 q293).trans (upd_same _ _ _)
                        have E293 := And.intro E292 (And.intro (b293 _ _ g17b) gW293)
                        simp (disch := first | assumption | decide) only [go_sem, ↓reduceIte, dBy8, Int.toNat_natCast, KeepK, E293, p293_29, p293_30, p293_22]
                        obtain ⟨B294, Ba294, Bb294, Bc294, Bd294⟩ := Lc293.own b293
                        refine OwnJ.append (m := 1) Ba294 rfl ?_ fun v294 Y294 hv294 => ?_
                        · omega
                        have k294 := kA hv294 Bd294
                        have gW294 := k294 r _ gW293 (by simp)
                        have b294 := Sub.trans Bb294 hv294.sub
                        have Lc294 := Lst.of hv294 Bb294
                        have Lo294 := Lo293.keep fun b hb => k294 b _ hb (by simp)
                        have Lm294 := Lm293.keep fun b hb => k294 b _ hb (by simp)
                        have p294_29 := k294 _ _ p293_29 (by simp)
                        have p294_30 := k294 _ _ p293_30 (by simp)
                        have E294 := And.intro E293 (And.intro (b294 _ _ g17b) (And.intro gW294 hv294.cell1))
                        simp (disch := first | assumption | decide) only [go_sem, ↓reduceIte, dBy8, Int.toNat_natCast, KeepK, E294, p294_29, p294_30]
                        obtain ⟨B295, Ba295, Bb295, Bc295, Bd295⟩ := Lm294.own b294
                        refine OwnJ.append (m := 1) Ba295 rfl ?_ fun v295 Y295 hv295 => ?_
                        · omega
                        have k295 := kA hv295 Bd295
                        have gW295 := k295 r _ gW294 (by simp)
                        have b295 := Sub.trans Bb295 hv295.sub
                        have Lc295 := Lc294.keep fun b hb => k295 b _ hb (by simp)
                        have Lo295 := Lo294.keep fun b hb => k295 b _ hb (by simp)
                        have Lm295 := Lst.of hv295 Bb295
                        have p295_29 := k295 _ _ p294_29 (by simp)
                        have E295 := And.intro E294 (And.intro (b295 _ _ g17b) (And.intro gW295 hv295.cell1))
                        simp (disch := first | assumption | decide) only [go_sem, ↓reduceIte, dBy8, Int.toNat_natCast, KeepK, E295, p295_29]
                        exact ⟨by rw [wC_len hnl]; omega, by rw [wC_len hnl]; omega, SetUp.step hbs hn29 gW295 b295 Lc295 Lo295 Lm295 p295_29 (Sub.lo b290 hq291)⟩
                       ·
                        intro q299 hq299; dsimp only at hq299
                        obtain ⟨Y299, hY299⟩ : ∃ Y, Y = upd Y291 q299 (some (.cells [.int .i64 (ceilF bases users more k o)] 3)) := ⟨_, rfl⟩
                        rw [← hY299]
                        have k299 := kU hY299 hq299
                        have gW299 := k299 _ _ gW291
                        have b299 := Sub.trans b291 k299
                        have Lc299 := Lc291.keep fun b => k299 b _
                        have Lo299 := Lo291.keep fun b => k299 b _
                        have Lm299 := Lm291.keep fun b => k299 b _
                        have p299_29 := k299 _ _ p291_29
                        have p299_22 := (congrFun hY299 q299).trans (upd_same _ _ _)
                        have E299 := And.intro E291 (And.intro (b299 _ _ g17b) gW299)
                        simp (disch := first | assumption | decide) only [go_sem, ↓reduceIte, dBy8, Int.toNat_natCast, KeepK, E299, p299_29, p299_22]
                        refine ⟨?_, ?_⟩
                        ·
                         intro q300 hq300; dsimp only at hq300
                         obtain ⟨Y300, hY300⟩ : ∃ Y, Y = upd Y299 q300 (some (.cells [.oslice 1 q291 0 en en] 26)) := ⟨_, rfl⟩
                         rw [← hY300]
                         have k300 := kU hY300 hq300
                         have gW300 := k300 _ _ gW299
                         have b300 := Sub.trans b299 k300
                         have Lc300 := Lc299.keep fun b => k300 b _
                         have Lo300 := Lo299.keep fun b => k300 b _
                         have Lm300 := Lm299.keep fun b => k300 b _
                         have p300_29 := k300 _ _ p299_29
                         have p300_22 := k300 _ _ p299_22
                         have p300_30 := (congrFun hY300 q300).trans (upd_same _ _ _)
                         have E300 := And.intro E299 (And.intro (b300 _ _ g17b) gW300)
                         simp (disch := first | assumption | decide) only [go_sem, ↓reduceIte, dBy8, Int.toNat_natCast, KeepK, E300, p300_29, p300_22, p300_30]
                         obtain ⟨B301, Ba301, Bb301, Bc301, Bd301⟩ := Lc300.own b300
                         refine OwnJ.append (m := 1) Ba301 rfl ?_ fun v301 Y301 hv301 => ?_
                         · omega
                         have k301 := kA hv301 Bd301
                         have gW301 := k301 r _ gW300 (by simp)
                         have b301 := Sub.trans Bb301 hv301.sub
                         have Lc301 := Lst.of hv301 Bb301
                         have Lo301 := Lo300.keep fun b hb => k301 b _ hb (by simp)
                         have Lm301 := Lm300.keep fun b hb => k301 b _ hb (by simp)
                         have p301_29 := k301 _ _ p300_29 (by simp)
                         have p301_30 := k301 _ _ p300_30 (by simp)
                         have E301 := And.intro E300 (And.intro (b301 _ _ g17b) (And.intro gW301 hv301.cell1))
                         simp (disch := first | assumption | decide) only [go_sem, ↓reduceIte, dBy8, Int.toNat_natCast, KeepK, E301, p301_29, p301_30]
                         obtain ⟨B302, Ba302, Bb302, Bc302, Bd302⟩ := Lm301.own b301
                         refine OwnJ.append (m := 1) Ba302 rfl ?_ fun v302 Y302 hv302 => ?_
                         · omega
                         have k302 := kA hv302 Bd302
                         have gW302 := k302 r _ gW301 (by simp)
                         have b302 := Sub.trans Bb302 hv302.sub
                         have Lc302 := Lc301.keep fun b hb => k302 b _ hb (by simp)
                         have Lo302 := Lo301.keep fun b hb => k302 b _ hb (by simp)
                         have Lm302 := Lst.of hv302 Bb302
                         have p302_29 := k302 _ _ p301_29 (by simp)
                         have E302 := And.intro E301 (And.intro (b302 _ _ g17b) (And.intro gW302 hv302.cell1))
                         simp (disch := first | assumption | decide) only [go_sem, ↓reduceIte, dBy8, Int.toNat_natCast, KeepK, E302, p302_29]
                         exact ⟨by rw [wC_len hnl]; omega, by rw [wC_len hnl]; omega, SetUp.step hbs hn29 gW302 b302 Lc302 Lo302 Lm302 p302_29 (Sub.lo b290 hq291)⟩
                        ·
                         obtain ⟨B306, Ba306, Bb306, Bc306, Bd306⟩ := Lc299.own b299
                         refine OwnJ.append (m := 1) Ba306 rfl ?_ fun v306 Y306 hv306 => ?_
                         · omega
                         have k306 := kA hv306 Bd306
                         have gW306 := k306 r _ gW299 (by simp)
                         have b306 := Sub.trans Bb306 hv306.sub
                         have Lc306 := Lst.of hv306 Bb306
                         have Lo306 := Lo299.keep fun b hb => k306 b _ hb (by simp)
                         have Lm306 := Lm299.keep fun b hb => k306 b _ hb (by simp)
                         have p306_29 := k306 _ _ p299_29 (by simp)
                         have E306 := And.intro E299 (And.intro (b306 _ _ g17b) (And.intro gW306 hv306.cell1))
                         simp (disch := first | assumption | decide) only [go_sem, ↓reduceIte, dBy8, Int.toNat_natCast, KeepK, E306, p306_29]
                         intro q307 hq307; dsimp only at hq307
                         obtain ⟨Y307, hY307⟩ : ∃ Y, Y = upd Y306 q307 (some (.cells [.oslice 1 q291 0 en en] 26)) := ⟨_, rfl⟩
                         rw [← hY307]
                         have k307 := kU hY307 hq307
                         have gW307 := k307 _ _ gW306
                         have b307 := Sub.trans b306 k307
                         have Lc307 := Lc306.keep fun b => k307 b _
                         have Lo307 := Lo306.keep fun b => k307 b _
                         have Lm307 := Lm306.keep fun b => k307 b _
                         have p307_29 := k307 _ _ p306_29
                         have p307_30 := (congrFun hY307 q307).trans (upd_same _ _ _)
                         have E307 := And.intro E306 (And.intro (b307 _ _ g17b) gW307)
                         simp (disch := first | assumption | decide) only [go_sem, ↓reduceIte, dBy8, Int.toNat_natCast, KeepK, E307, p307_29, p307_30]
                         obtain ⟨B308, Ba308, Bb308, Bc308, Bd308⟩ := Lm307.own b307
                         refine OwnJ.append (m := 1) Ba308 rfl ?_ fun v308 Y308 hv308 => ?_
                         · omega
                         have k308 := kA hv308 Bd308
                         have gW308 := k308 r _ gW307 (by simp)
                         have b308 := Sub.trans Bb308 hv308.sub
                         have Lc308 := Lc307.keep fun b hb => k308 b _ hb (by simp)
                         have Lo308 := Lo307.keep fun b hb => k308 b _ hb (by simp)
                         have Lm308 := Lst.of hv308 Bb308
                         have p308_29 := k308 _ _ p307_29 (by simp)
                         have E308 := And.intro E307 (And.intro (b308 _ _ g17b) (And.intro gW308 hv308.cell1))
                         simp (disch := first | assumption | decide) only [go_sem, ↓reduceIte, dBy8, Int.toNat_natCast, KeepK, E308, p308_29]
                         exact ⟨by rw [wC_len hnl]; omega, by rw [wC_len hnl]; omega, SetUp.step hbs hn29 gW308 b308 Lc308 Lo308 Lm308 p308_29 (Sub.lo b290 hq291)⟩
                      ·
                       intro q312 hq312; dsimp only at hq312
                       obtain ⟨Y312, hY312⟩ : ∃ Y, Y = upd Y290 q312 (some (.cells [.int .i64 (ceilF bases users more k o)] 3)) := ⟨_, rfl⟩
                       rw [← hY312]
                       have k312 := kU hY312 hq312
                       have gW312 := k312 _ _ gW290
                       have b312 := Sub.trans b290 k312
                       have Lc312 := Lc290.keep fun b => k312 b _
                       have Lo312 := Lo290.keep fun b => k312 b _
                       have Lm312 := Lm290.keep fun b => k312 b _
                       have p312_22 := (congrFun hY312 q312).trans (upd_same _ _ _)
                       have E312 := And.intro E290 (And.intro (b312 _ _ g17b) gW312)
                       simp (disch := first | assumption | decide) only [go_sem, ↓reduceIte, dBy8, Int.toNat_natCast, KeepK, E312, p312_22]
                       refine ⟨?_, ?_⟩
                       ·
                        intro q313 hq313; dsimp only at hq313
                        obtain ⟨Y313, hY313⟩ : ∃ Y, Y = upd Y312 q313 (some (.cells (List.replicate en .nilSlice) 27)) := ⟨_, rfl⟩
                        rw [← hY313]
                        have k313 := kU hY313 hq313
                        have gW313 := k313 _ _ gW312
                        have b313 := Sub.trans b312 k313
                        have Lc313 := Lc312.keep fun b => k313 b _
                        have Lo313 := Lo312.keep fun b => k313 b _
                        have Lm313 := Lm312.keep fun b => k313 b _
                        have p313_22 := k313 _ _ p312_22
                        have p313_29 := (congrFun hY313 q313).trans (upd_same _ _ _)
                        have E313 := And.intro E312 (And.intro (b313 _ _ g17b) gW313)
                        simp (disch := first | assumption | decide) only [go_sem, ↓reduceIte, dBy8, Int.toNat_natCast, KeepK, E313, p313_22, p313_29]
                        refine ⟨?_, ?_⟩
                        ·
                         intro q314 hq314; dsimp only at hq314
                         obtain ⟨Y314, hY314⟩ : ∃ Y, Y = upd Y313 q314 (some (.cells [.oslice 1 q313 0 en en] 26)) := ⟨_, rfl⟩
                         rw [← hY314]
                         have k314 := kU hY314 hq314
                         have gW314 := k314 _ _ gW313
                         have b314 := Sub.trans b313 k314
                         have Lc314 := Lc313.keep fun b => k314 b _
                         have Lo314 := Lo313.keep fun b => k314 b _
                         have Lm314 := Lm313.keep fun b => k314 b _
                         have p314_22 := k314 _ _ p313_22
                         have p314_29 := k314 _ _ p313_29
                         have p314_30 := (congrFun hY314 q314).trans (upd_same _ _ _)
                         have E314 := And.intro E313 (And.intro (b314 _ _ g17b) gW314)
                         simp (disch := first | assumption | decide) only [go_sem, ↓reduceIte, dBy8, Int.toNat_natCast, KeepK, E314, p314_22, p314_29, p314_30]
                         obtain ⟨B315, Ba315, Bb315, Bc315, Bd315⟩ := Lc314.own b314
                         refine OwnJ.append (m := 1) Ba315 rfl ?_ fun v315 Y315 hv315 => ?_
                         · omega
                         have k315 := kA hv315 Bd315
                         have gW315 := k315 r _ gW314 (by simp)
                         have b315 := Sub.trans Bb315 hv315.sub
                         have Lc315 := Lst.of hv315 Bb315
                         have Lo315 := Lo314.keep fun b hb => k315 b _ hb (by simp)
                         have Lm315 := Lm314.keep fun b hb => k315 b _ hb (by simp)
                         have p315_29 := k315 _ _ p314_29 (by simp)
                         have p315_30 := k315 _ _ p314_30 (by simp)
                         have E315 := And.intro E314 (And.intro (b315 _ _ g17b) (And.intro gW315 hv315.cell1))
                         simp (disch := first | assumption | decide) only [go_sem, ↓reduceIte, dBy8, Int.toNat_natCast, KeepK, E315, p315_29, p315_30]
                         obtain ⟨B316, Ba316, Bb316, Bc316, Bd316⟩ := Lm315.own b315
                         refine OwnJ.append (m := 1) Ba316 rfl ?_ fun v316 Y316 hv316 => ?_
                         · omega
                         have k316 := kA hv316 Bd316
                         have gW316 := k316 r _ gW315 (by simp)
                         have b316 := Sub.trans Bb316 hv316.sub
                         have Lc316 := Lc315.keep fun b hb => k316 b _ hb (by simp)
                         have Lo316 := Lo315.keep fun b hb => k316 b _ hb (by simp)
                         have Lm316 := Lst.of hv316 Bb316
                         have p316_29 := k316 _ _ p315_29 (by simp)
                         have E316 := And.intro E315 (And.intro (b316 _ _ g17b) (And.intro gW316 hv316.cell1))
                         simp (disch := first | assumption | decide) only [go_sem, ↓reduceIte, dBy8, Int.toNat_natCast, KeepK, E316, p316_29]
                         exact ⟨by rw [wC_len hnl]; omega, by rw [wC_len hnl]; omega, SetUp.step hbs hn29 gW316 b316 Lc316 Lo316 Lm316 p316_29 (Sub.lo b312 hq313)⟩
                        ·
                         obtain ⟨B320, Ba320, Bb320, Bc320, Bd320⟩ := Lc313.own b313
                         refine OwnJ.append (m := 1) Ba320 rfl ?_ fun v320 Y320 hv320 => ?_
                         · omega
                         have k320 := kA hv320 Bd320
                         have gW320 := k320 r _ gW313 (by simp)
                         have b320 := Sub.trans Bb320 hv320.sub
                         have Lc320 := Lst.of hv320 Bb320
                         have Lo320 := Lo313.keep fun b hb => k320 b _ hb (by simp)
                         have Lm320 := Lm313.keep fun b hb => k320 b _ hb (by simp)
                         have p320_29 := k320 _ _ p313_29 (by simp)
                         have E320 := And.intro E313 (And.intro (b320 _ _ g17b) (And.intro gW320 hv320.cell1))
                         simp (disch := first | assumption | decide) only [go_sem, ↓reduceIte, dBy8, Int.toNat_natCast, KeepK, E320, p320_29]
                         intro q321 hq321; dsimp only at hq321
                         obtain ⟨Y321, hY321⟩ : ∃ Y, Y = upd Y320 q321 (some (.cells [.oslice 1 q313 0 en en] 26)) := ⟨_, rfl⟩
                         rw [← hY321]
                         have k321 := kU hY321 hq321
                         have gW321 := k321 _ _ gW320
                         have b321 := Sub.trans b320 k321
                         have Lc321 := Lc320.keep fun b => k321 b _
                         have Lo321 := Lo320.keep fun b => k321 b _
                         have Lm321 := Lm320.keep fun b => k321 b _
                         have p321_29 := k321 _ _ p320_29
                         have p321_30 := (congrFun hY321 q321).trans (upd_same _ _ _)
                         have E321 := And.intro E320 (And.intro (b321 _ _ g17b) gW321)
                         simp (disch := first | assumption | decide) only [go_sem, ↓reduceIte, dBy8, Int.toNat_natCast, KeepK, E321, p321_29, p321_30]
                         obtain ⟨B322, Ba322, Bb322, Bc322, Bd322⟩ := Lm321.own b321
                         refine OwnJ.append (m := 1) Ba322 rfl ?_ fun v322 Y322 hv322 => ?_
                         · omega
                         have k322 := kA hv322 Bd322
                         have gW322 := k322 r _ gW321 (by simp)
                         have b322 := Sub.trans Bb322 hv322.sub
                         have Lc322 := Lc321.keep fun b hb => k322 b _ hb (by simp)
                         have Lo322 := Lo321.keep fun b hb => k322 b _ hb (by simp)
                         have Lm322 := Lst.of hv322 Bb322
                         have p322_29 := k322 _ _ p321_29 (by simp)
                         have E322 := And.intro E321 (And.intro (b322 _ _ g17b) (And.intro gW322 hv322.cell1))
                         simp (disch := first | assumption | decide) only [go_sem, ↓reduceIte, dBy8, Int.toNat_natCast, KeepK, E322, p322_29]
                         exact ⟨by rw [wC_len hnl]; omega, by rw [wC_len hnl]; omega, SetUp.step hbs hn29 gW322 b322 Lc322 Lo322 Lm322 p322_29 (Sub.lo b312 hq313)⟩
                       ·
                        obtain ⟨B326, Ba326, Bb326, Bc326, Bd326⟩ := Lc312.own b312
                        refine OwnJ.append (m := 1) Ba326 rfl ?_ fun v326 Y326 hv326 => ?_
                        · omega
                        have k326 := kA hv326 Bd326
                        have gW326 := k326 r _ gW312 (by simp)
                        have b326 := Sub.trans Bb326 hv326.sub
                        have Lc326 := Lst.of hv326 Bb326
                        have Lo326 := Lo312.keep fun b hb => k326 b _ hb (by simp)
                        have Lm326 := Lm312.keep fun b hb => k326 b _ hb (by simp)
                        have E326 := And.intro E312 (And.intro (b326 _ _ g17b) (And.intro gW326 hv326.cell1))
                        simp (disch := first | assumption | decide) only [go_sem, ↓reduceIte, dBy8, Int.toNat_natCast, KeepK, E326]
                        intro q327 hq327; dsimp only at hq327
                        obtain ⟨Y327, hY327⟩ : ∃ Y, Y = upd Y326 q327 (some (.cells (List.replicate en .nilSlice) 27)) := ⟨_, rfl⟩
                        rw [← hY327]
                        have k327 := kU hY327 hq327
                        have gW327 := k327 _ _ gW326
                        have b327 := Sub.trans b326 k327
                        have Lc327 := Lc326.keep fun b => k327 b _
                        have Lo327 := Lo326.keep fun b => k327 b _
                        have Lm327 := Lm326.keep fun b => k327 b _
                        have p327_29 := (congrFun hY327 q327).trans (upd_same _ _ _)
                        have E327 := And.intro E326 (And.intro (b327 _ _ g17b) gW327)
                        simp (disch := first | assumption | decide) only [go_sem, ↓reduceIte, dBy8, Int.toNat_natCast, KeepK, E327, p327_29]
                        intro q328 hq328; dsimp only at hq328
                        obtain ⟨Y328, hY328⟩ : ∃ Y, Y = upd Y327 q328 (some (.cells [.oslice 1 q327 0 en en] 26)) := ⟨_, rfl⟩
                        rw [← hY328]
                        have k328 := kU hY328 hq328
                        have gW328 := k328 _ _ gW327
                        have b328 := Sub.trans b327 k328
                        have Lc328 := Lc327.keep fun b => k328 b _
                        have Lo328 := Lo327.keep fun b => k328 b _
                        have Lm328 := Lm327.keep fun b => k328 b _
                        have p328_29 := k328 _ _ p327_29
                        have p328_30 := (congrFun hY328 q328).trans (upd_same _ _ _)
                        have E328 := And.intro E327 (And.intro (b328 _ _ g17b) gW328)
                        simp (disch := first | assumption | decide) only [go_sem, ↓reduceIte, dBy8, Int.toNat_natCast, KeepK, E328, p328_29, p328_30]
                        obtain ⟨B329, Ba329, Bb329, Bc329, Bd329⟩ := Lm328.own b328
                        refine OwnJ.append (m := 1) Ba329 rfl ?_ fun v329 Y329 hv329 => ?_
                        · omega
                        have k329 := kA hv329 Bd329
                        have gW329 := k329 r _ gW328 (by simp)
                        have b329 := Sub.trans Bb329 hv329.sub
                        have Lc329 := Lc328.keep fun b hb => k329 b _ hb (by simp)
                        have Lo329 := Lo328.keep fun b hb => k329 b _ hb (by simp)
                        have Lm329 := Lst.of hv329 Bb329
                        have p329_29 := k329 _ _ p328_29 (by simp)
                        have E329 := And.intro E328 (And.intro (b329 _ _ g17b) (And.intro gW329 hv329.cell1))
                        simp (disch := first | assumption | decide) only [go_sem, ↓reduceIte, dBy8, Int.toNat_natCast, KeepK, E329, p329_29]
                        exact ⟨by rw [wC_len hnl]; omega, by rw [wC_len hnl]; omega, SetUp.step hbs hn29 gW329 b329 Lc329 Lo329 Lm329 p329_29 (Sub.lo b326 hq327)⟩
                  --ENDTREE25
                · rintro _ ⟨env, K⟩ ⟨rfl, e2, e3, e5, e9, e10, e11, e14, e84, e85, hset⟩
                  dsimp only at e2 e3 e5 e9 e10 e11 e14 e84 e85 hset
                  have hwo : IntKind.i64.wrap ((o : Int) + 1) = ((o + 1 : Nat) : Int) := by rw [IntKind.wrap_i64]; omega
                  simp (disch := omega) only [go_sem, ↓reduceIte, e2, e3, e5, e9, e10, e11, e14, e84, e85]
                  obtain ⟨K', hgh, hset'⟩ := SetUp1.ghost (G := G) (env := upd (upd env 166 (.int .i64 ((o : Int) + 1))) 85 (.int .i64 ((o : Int) + 1))) hset
                  refine ⟨o + 1, _, hgh, (hJ _ _ _).2 ?_, by omega⟩
                  simp (disch := omega) only [go_sem, ↓reduceIte, e2, e3, e5, e9, e10, e11, e14, e84, e85, hwo]
                  (repeat' apply And.intro) <;> (try first | rfl | assumption | omega)
          · have hom' : o = m := by omega
            subst hom'
            have hlt' : ¬ (o : Int) < (o : Int) := by omega
            simp (disch := omega) only [go_sem, ↓reduceIte, e2, e3, e5, e9, e10, e11, e14, e84, e85, hlt', dSc, Int.toNat_natCast]
            have s03 : Sub X0 H3 := s2.trans s23
            have nqb0 : X0 qb = none := s2.lo hqb
            have nbs : qb ≠ rs := fun e => by rw [e, rs2] at hqb; cases hqb
            obtain ⟨K', hgh, hwat⟩ := SetUp.done (G := G) (env := upd (upd (upd (upd env 86 (.bool false)) 167 (.vslice (script.map (.int .u16)) script.length)) 168 (.int .i64 script.length)) 169 (.int .i64 0)) c1 hset s03 hnils nr nrh nrs n1 n2 n3 rh3 rs3 qb3 nqb0 nbs
            obtain ⟨n, rfl⟩ : ∃ n', n' = j := ⟨_, rfl⟩
            obtain ⟨m, rfl⟩ : ∃ m', m' = o := ⟨_, rfl⟩
            obtain ⟨Q, hQ⟩ : ∃ Q : Nat → (Nat → DVal) → DHeap → Prop, ∀ i env heap, Q i env heap ↔ (env 9 = dI n ∧ env 10 = dI m ∧ env 11 = .optr r 0 ∧ env 14 = .func (.func 5) [] [.optr r5 0] ∧ env 167 = .vslice (script.map (.int .u16)) script.length ∧ env 168 = dI script.length ∧ env 169 = dI i ∧ i ≤ script.length ∧ ∃ w, WAt X0 n m r w heap ∧ LInv n m (usesB users) [] w) := ⟨_, fun _ _ _ => Iff.rfl⟩
            refine DLoop.runG Q (fun i => script.length - i) 0 _ hgh ((hQ _ _ _).2 ?_) ?_
            · simp (disch := omega) only [go_sem, ↓reduceIte, e2, e3, e5, e9, e10, e11, e14, e84, e85]
              (repeat' apply And.intro) <;> (try first | rfl | assumption | omega)
              exact ⟨_, hwat, worldF_inv bases users more hb hmo (by omega)⟩
            · intro i env heap hi
              obtain ⟨e9, e10, e11, e14, e167, e168, e169, hil, w, hw, hv⟩ := (hQ _ _ _).1 hi
              by_cases hlt : i < script.length
              · have hlt' : (i : Int) < (script.length : Int) := by omega
                have hx := hsc _ (List.getElem_mem hlt)
                have hget : (script.map (DVal.int .u16))[i]? = some (.int .u16 script[i]) := by rw [List.getElem?_map, List.getElem?_eq_getElem hlt]; rfl
                obtain ⟨x, hxd⟩ : ∃ x, x = script[i] := ⟨_, rfl⟩
                rw [← hxd] at hx hget
                have hsl : (script.map (DVal.int .u16)).length = script.length := List.length_map _
                have hwi : IntKind.i64.wrap ((i : Int) + 1) = ((i + 1 : Nat) : Int) := by rw [IntKind.wrap_i64]; omega
                have htm : 0 ≤ x.tmod 8 ∧ x.tmod 8 < 8 := by rw [Int.tmod_eq_emod_of_nonneg (by omega)]; omega
                obtain ⟨a, ha, ha8⟩ : ∃ a : Nat, x.fdiv (2 ^ min 3 16) = (a : Int) ∧ a < 8192 := by
                  refine ⟨(x / 8).toNat, ?_, by omega⟩
                  rw [Int.fdiv_eq_ediv_of_nonneg _ (by decide)]
                  show x / 8 = _
                  omega
                have hr100 : ∀ p, p < 32 → (w.ready p).length ≤ 100 := fun p hp => by have := hv.ready_le hp; omega
                by_cases k1 : x.tmod 8 < 2
                · have htn : (a : Int).tmod n = ((a % n : Nat) : Int) := by rw [Int.tmod_eq_emod_of_nonneg (by omega)]; rfl
                  have htl : a % n < n := Nat.mod_lt _ (by omega)
                  have hn0 : ¬ (n : Int) = 0 := by omega
                  obtain ⟨t, htd⟩ : ∃ t, t = a % n := ⟨_, rfl⟩
                  rw [← htd] at htn htl
                  have hw0 := hw
                  obtain ⟨rh, rs, ro, rm, rr, vr, hvv, B, k⟩ := hw0
                  have hsX := k.rows.sub
                  have cX := hsX _ _ k.c
                  have sX := hsX _ _ k.s
                  have hsg := dI_map_get w.state htl
                  have hwl := wC_len (vb := .vslice ((List.range n).map fun t => dI (w.base t)) n) (vh := .oslice 1 rh 0 n n) (vs := .oslice 1 rs 0 n n) (vc := .vslice ((List.range m).map fun o => dI (w.ceil o)) m) (vo := .oslice 3 ro 0 m m) (vm := .oslice 1 rm 0 m m) k.lr
                  by_cases hs : w.state t = 0
                  · have hht : w.held t = [] := by
                      by_cases c : w.held t = []
                      · exact c
                      · have := hv.hst t htl (by simp) c; omega
                    have har := hv.act_rng htl
                    rw [hs] at hsg
                    simp (disch := omega) only [go_sem, ↓reduceIte, e9, e10, e11, e14, e167, e168, e169, hlt', hget, hsl, Int.toNat_natCast, ha, k1, htn, hn0, cX, hwl, wC_2, sX, hsg, List.length_range]
                    refine (put_w (G := G) (w := w) (t := t) (f := false) (by omega) (by omega) htl (by rw [hht]; simp) (by rw [hht]; simp) hr100 (by omega) hw).mono ?_
                    rintro _ K2 ⟨rfl, hw2⟩
                    simp (disch := omega) only [go_sem, ↓reduceIte, e9, e10, e11, e14, e167, e168, e169]
                    refine ⟨i + 1, _, GhostS.refl _, (hQ _ _ _).2 ?_, by omega⟩
                    simp (disch := omega) only [go_sem, ↓reduceIte, e9, e10, e11, e14, e167, e168, e169, hwi]
                    exact ⟨rfl, _, hw2, hv.arrive htl hs⟩
                  · simp (disch := omega) only [go_sem, ↓reduceIte, e9, e10, e11, e14, e167, e168, e169, hlt', hget, hsl, Int.toNat_natCast, ha, k1, htn, hn0, cX, hwl, wC_2, sX, hsg, hs, List.length_range]
                    refine ⟨i + 1, _, GhostS.refl _, (hQ _ _ _).2 ?_, by omega⟩
                    simp (disch := omega) only [go_sem, ↓reduceIte, e9, e10, e11, e14, e167, e168, e169, hwi]
                    exact ⟨rfl, _, hw, hv⟩
                · simp (disch := omega) only [go_sem, ↓reduceIte, e9, e10, e11, e14, e167, e168, e169, hlt', hget, hsl, Int.toNat_natCast, ha, k1]
                  refine (running_w (G := G) hr100 hw).mono ?_
                  rintro _ K2 ⟨rfl, hK2⟩
                  rw [hK2]
                  cases hrun : w.runG 32 with
                  | none =>
                    simp (disch := omega) only [go_sem, ↓reduceIte, dRun, hrun, e9, e10, e11, e14, e167, e168, e169]
                    refine ⟨i + 1, _, GhostS.refl _, (hQ _ _ _).2 ?_, by omega⟩
                    simp (disch := omega) only [go_sem, ↓reduceIte, e9, e10, e11, e14, e167, e168, e169, hwi]
                    exact ⟨rfl, _, hw, hv⟩
                  | some t =>
                    obtain ⟨ht, hst, -⟩ := hv.run hrun
                    have htp : ¬ (t : Int) < 0 := by omega
                    have hw0 := hw
                    obtain ⟨rh, rs, ro, rm, rr, vr, hvv, B, k⟩ := hw0
                    have hsX := k.rows.sub
                    have cX := hsX _ _ k.c
                    have hX := hsX _ _ k.h
                    have hwl := wC_len (vb := .vslice ((List.range n).map fun t => dI (w.base t)) n) (vh := .oslice 1 rh 0 n n) (vs := .oslice 1 rs 0 n n) (vc := .vslice ((List.range m).map fun o => dI (w.ceil o)) m) (vo := .oslice 3 ro 0 m m) (vm := .oslice 1 rm 0 m m) k.lr
                    obtain ⟨v, H1, hvt, hvo, hsB, hput⟩ := k.heldRow ht
                    have hlh := k.lh
                    have vl := hvo.vlen
                    rw [cL_len] at vl
                    have hton : (a : Int).tmod m = ((a % m : Nat) : Int) := by rw [Int.tmod_eq_emod_of_nonneg (by omega)]; rfl
                    have hol : a % m < m := Nat.mod_lt _ (by omega)
                    have hm0 : ¬ (m : Int) = 0 := by omega
                    obtain ⟨o, hod⟩ : ∃ o, o = a % m := ⟨_, rfl⟩
                    rw [← hod] at hton hol
                    obtain ⟨nA, hA⟩ : ∃ nA, (@HAnd.hAnd (BitVec 64) (BitVec 64) (BitVec 64) (@instHAndOfAndOp (BitVec IntKind.i64.bits) (@BitVec.instAndOp IntKind.i64.bits)) (BitVec.ofInt 64 ((a : Int).fdiv (2 ^ min 4 64))) (BitVec.ofInt 64 1)).toNat = nA := ⟨_, rfl⟩
                    obtain ⟨nB, hB⟩ : ∃ nB, (@HAnd.hAnd (BitVec 64) (BitVec 64) (BitVec 64) (@instHAndOfAndOp (BitVec IntKind.i64.bits) (@BitVec.instAndOp IntKind.i64.bits)) (BitVec.ofInt 64 ((a : Int).fdiv (2 ^ min 5 64))) (BitVec.ofInt 64 1)).toNat = nB := ⟨_, rfl⟩
                    obtain ⟨b4, hb4⟩ : ∃ b, decide (IntKind.i64.wrap (nA : Int) = 1) = b := ⟨_, rfl⟩
                    obtain ⟨b5, hb5⟩ : ∃ b, decide (IntKind.i64.wrap (nB : Int) = 1) = b := ⟨_, rfl⟩
                    simp (disch := omega) only [go_sem, ↓reduceIte, dRun, hrun, e9, e10, e11, e14, e167, e168, e169, htp, cX, hwl, wC_1, hX, hlh, hvt, hton, hm0, hA, hB, hb4, hb5, Int.toNat_natCast]
                    intro q9 hq9; dsimp only at hq9
                    obtain ⟨Y, hY⟩ : ∃ Y, Y = upd heap q9 (some (.cells [.bool b4, .bool b5] 4)) := ⟨_, rfl⟩
                    rw [← hY]
                    have kY := k.frame hq9 (.cells [.bool b4, .bool b5] 4)
                    rw [← hY] at kY
                    have hq9X : X0 q9 = none := hw.sub.lo hq9
                    have g9 : Y q9 = some (.cells [.bool b4, .bool b5] 4) := by rw [hY]; exact upd_same _ _ _
                    have back : ∀ {w2 : LW} {K : DHeap}, WAt (upd X0 q9 (some (.cells [.bool b4, .bool b5] 4))) n m r w2 K → WAt X0 n m r w2 K := fun h => h.lo ((Sub.refl X0).new hq9X _)
                    have hwY : WAt (upd X0 q9 (some (.cells [.bool b4, .bool b5] 4))) n m r w Y := ⟨_, _, _, _, _, _, _, _, kY⟩
                    by_cases k2 : x.tmod 8 < 5
                    · have hka : ∀ d, keepAt Y Y d = True := fun d => eq_true keepAt_refl
                      have hkt : ∀ A B l, keepAt A B (.tuple l) = True := fun A B l => eq_true (by unfold keepAt; trivial)
                      have hou : o < users.length := by omega
                      have g5Y : Y r5 = some (.cells [dBy8 users] 22) := by
                        rw [hY]; exact keepU (hw.sub _ _ g5) (none_ne hq9 (hw.sub _ _ g5))
                      have hus := uses_spec G users hu (t := t) (o := o) (r5 := r5) (by omega) hou Y g5Y
                      have hheld32 := hv.held_le (show m ≤ 4 by omega) ht
                      have hcon := contains_w G (hvo.frame hq9 (.cells [.bool b4, .bool b5] 4)).1 (by omega) o
                      rw [← hY] at hcon
                      have hact := active_w (G := G) (w := w) (show n ≤ 8 by omega) (show m ≤ 4 by omega) ht (fun y hy => (hv.held t ht y hy).1) (by omega) hwY
                      have hog := dI_map_get w.ceil hol
                      have hmg : ((List.range m).map fun o => .oslice 1 (rr o) 0 (w.model o).length (w.model o).length)[o]? = some (DVal.oslice 1 (rr o) 0 (w.model o).length (w.model o).length) := by
                        rw [List.getElem?_map, List.getElem?_range hol]; rfl
                      have cY := kY.rows.sub _ _ kY.c
                      have moY := kY.rows.sub _ _ kY.mo
                      have h35 := wC_35 (vb := .vslice ((List.range n).map fun t => dI (w.base t)) n) (vh := .oslice 1 rh 0 n n) (vs := .oslice 1 rs 0 n n) (vc := .vslice ((List.range m).map fun o => dI (w.ceil o)) m) (vo := .oslice 3 ro 0 m m) (vm := .oslice 1 rm 0 m m) k.lr
                      have h37 := wC_37 (vb := .vslice ((List.range n).map fun t => dI (w.base t)) n) (vh := .oslice 1 rh 0 n n) (vs := .oslice 1 rs 0 n n) (vc := .vslice ((List.range m).map fun o => dI (w.ceil o)) m) (vo := .oslice 3 ro 0 m m) (vm := .oslice 1 rm 0 m m) k.lr
                      obtain ⟨hob1, hob2, hob3⟩ := hv.objs o hol
                      simp (disch := omega) only [go_sem, ↓reduceIte, e9, e10, e11, e14, e167, e168, e169, hton, hm0, k2]
                      refine dwp_draws (by kernel_rfl) (.take 0 (.take 1 (.take 2 (.go 3 [] (.take 4 (.take 5 (.take 6 (.go 7 [] (.take 8 (.take 9 (.take 10 (.take 11 (.take 12 (.take 14 (.take 15 (.take 16 (.take 17 (.take 18 (.take 19 (.take 20 (.go 13 [20, 17] (.take 21 (.take 22 (.take 23 (.take 24 (.take 25 (.take 26 (.take 27 (.take 28 (.take 29 (.take 30 (.take 31 (.take 32 (.take 33 (.take 34 (.take 35 (.take 36 (.take 37 (.take 38 (.take 39 (.take 40 (.take 41 (.take 42 (.go 43 [] (.take 44 (.take 45 .done)))))))))))))))))))))))))))))))))))))))))))))) (by kernel_rfl) ?_
                      simp (disch := omega) only [go_sem, ↓reduceIte, e9, e10, e11, e14, e167, e168, e169]
                      refine hus.mono ?_
                      rintro _ K5 ⟨rfl, hK5⟩
                      rw [hK5]
                      cases hub : usesB users t o with
                      | false =>
                        simp (disch := omega) only [go_sem, ↓reduceIte, e9, e10, e11, e14, e167, e168, e169, cY, moY, h35, h37, hog, hmg, hwl, vl, hob3, List.length_range, Int.toNat_natCast, KeepK, hka, hkt]
                        refine ⟨i + 1, _, GhostS.refl _, (hQ _ _ _).2 ?_, by omega⟩
                        simp (disch := omega) only [go_sem, ↓reduceIte, e9, e10, e11, e14, e167, e168, e169, hwi]
                        exact ⟨rfl, _, back hwY, hv⟩
                      | true =>
                        simp (disch := omega) only [go_sem, ↓reduceIte, e9, e10, e11, e14, e167, e168, e169, cY, moY, h35, h37, hog, hmg, hwl, vl, hob3, List.length_range, Int.toNat_natCast, KeepK, hka, hkt]
                        refine hcon.mono ?_
                        rintro _ K5 ⟨rfl, hK5⟩
                        rw [hK5]
                        by_cases hin : o ∈ w.held t
                        · simp (disch := omega) only [go_sem, ↓reduceIte, e9, e10, e11, e14, e167, e168, e169, cY, moY, h35, h37, hog, hmg, hwl, vl, hob3, List.length_range, Int.toNat_natCast, KeepK, hka, hkt, hin]
                          refine ⟨i + 1, _, GhostS.refl _, (hQ _ _ _).2 ?_, by omega⟩
                          simp (disch := omega) only [go_sem, ↓reduceIte, e9, e10, e11, e14, e167, e168, e169, hwi]
                          exact ⟨rfl, _, back hwY, hv⟩
                        · simp (disch := omega) only [go_sem, ↓reduceIte, e9, e10, e11, e14, e167, e168, e169, cY, moY, h35, h37, hog, hmg, hwl, vl, hob3, List.length_range, Int.toNat_natCast, KeepK, hka, hkt, hin]
                          refine hact.mono ?_
                          rintro _ K5 ⟨rfl, hK5⟩
                          rw [hK5]
                          by_cases hac : w.act t ≤ w.ceil o
                          · by_cases hem : w.held t = []
                            · have hl0 : (w.held t).length = 0 := by rw [hem]; rfl
                              have hl1 : ((0 : Nat) : Int) = 0 := rfl
                              simp (disch := omega) only [go_sem, ↓reduceIte, e9, e10, e11, e14, e167, e168, e169, cY, moY, h35, h37, hog, hmg, hwl, vl, hob3, List.length_range, Int.toNat_natCast, KeepK, hka, hkt, hac, hl0]
                              obtain ⟨hbe, hinv⟩ := hv.begin hrun hol hub hin hac (.inl hem)
                              have hcr := (hv.ceil o hol)
                              have hbt := hv.base t ht
                              have hbw := begin_w (G := G) (w := w) (t := t) (o := o) (by omega) (by omega) ht hol (fun y hy => (hv.held t ht y hy).1) (by omega) hr100 (by have := hcr.2 t ht hub; omega) (mayS_q hob1) hob3 hbe (by
                                refine activeL_rng (by show 0 ≤ w.base t ∧ w.base t ≤ 31; omega) fun y hy => ?_
                                obtain ⟨c, hc, rfl⟩ := List.mem_map.1 hy
                                have hc' : c ∈ set1 w.held t (w.held t ++ [o]) t := hc
                                rw [set1_same] at hc'
                                show w.ceil c ≤ 31
                                rcases List.mem_append.1 hc' with h | h
                                · have := (hv.ceil c (hv.held t ht c h).1).1; omega
                                · rw [List.mem_singleton.1 h]; omega) hwY
                              refine hbw.mono ?_
                              rintro _ K6 ⟨rfl, hw6⟩
                              simp (disch := omega) only [go_sem, ↓reduceIte, e9, e10, e11, e14, e167, e168, e169, cY, moY, h35, h37, hog, hmg, hwl, vl, hob3, List.length_range, Int.toNat_natCast, KeepK, hka, hkt]
                              refine ⟨i + 1, _, GhostS.refl _, (hQ _ _ _).2 ?_, by omega⟩
                              simp (disch := omega) only [go_sem, ↓reduceIte, e9, e10, e11, e14, e167, e168, e169, hwi]
                              exact ⟨rfl, _, back hw6, hinv⟩
                            · have hl0 : ¬ ((w.held t).length : Int) = 0 := by have := List.length_pos_iff.2 hem; omega
                              rcases hob2 with hq0 | hq2
                              · have hqe : (w.obj o).q = [] := List.length_eq_zero_iff.1 hq0
                                simp (disch := omega) only [go_sem, ↓reduceIte, e9, e10, e11, e14, e167, e168, e169, cY, moY, h35, h37, hog, hmg, hwl, vl, hob3, List.length_range, Int.toNat_natCast, KeepK, hka, hkt, hac, hl0, hq0]
                                obtain ⟨hbe, hinv⟩ := hv.begin hrun hol hub hin hac (.inr hqe)
                                have hcr := (hv.ceil o hol)
                                have hbt := hv.base t ht
                                have hbw := begin_w (G := G) (w := w) (t := t) (o := o) (by omega) (by omega) ht hol (fun y hy => (hv.held t ht y hy).1) (by omega) hr100 (by have := hcr.2 t ht hub; omega) (mayS_q hob1) hob3 hbe (by
                                  refine activeL_rng (by show 0 ≤ w.base t ∧ w.base t ≤ 31; omega) fun y hy => ?_
                                  obtain ⟨c, hc, rfl⟩ := List.mem_map.1 hy
                                  have hc' : c ∈ set1 w.held t (w.held t ++ [o]) t := hc
                                  rw [set1_same] at hc'
                                  show w.ceil c ≤ 31
                                  rcases List.mem_append.1 hc' with h | h
                                  · have := (hv.ceil c (hv.held t ht c h).1).1; omega
                                  · rw [List.mem_singleton.1 h]; omega) hwY
                                refine hbw.mono ?_
                                rintro _ K6 ⟨rfl, hw6⟩
                                simp (disch := omega) only [go_sem, ↓reduceIte, e9, e10, e11, e14, e167, e168, e169, cY, moY, h35, h37, hog, hmg, hwl, vl, hob3, List.length_range, Int.toNat_natCast, KeepK, hka, hkt]
                                refine ⟨i + 1, _, GhostS.refl _, (hQ _ _ _).2 ?_, by omega⟩
                                simp (disch := omega) only [go_sem, ↓reduceIte, e9, e10, e11, e14, e167, e168, e169, hwi]
                                exact ⟨rfl, _, back hw6, hinv⟩
                              · simp (disch := omega) only [go_sem, ↓reduceIte, e9, e10, e11, e14, e167, e168, e169, cY, moY, h35, h37, hog, hmg, hwl, vl, hob3, List.length_range, Int.toNat_natCast, KeepK, hka, hkt, hac, hl0, hq2]
                                refine ⟨i + 1, _, GhostS.refl _, (hQ _ _ _).2 ?_, by omega⟩
                                simp (disch := omega) only [go_sem, ↓reduceIte, e9, e10, e11, e14, e167, e168, e169, hwi]
                                exact ⟨rfl, _, back hwY, hv⟩
                          · simp (disch := omega) only [go_sem, ↓reduceIte, e9, e10, e11, e14, e167, e168, e169, cY, moY, h35, h37, hog, hmg, hwl, vl, hob3, List.length_range, Int.toNat_natCast, KeepK, hka, hkt, hac]
                            refine ⟨i + 1, _, GhostS.refl _, (hQ _ _ _).2 ?_, by omega⟩
                            simp (disch := omega) only [go_sem, ↓reduceIte, e9, e10, e11, e14, e167, e168, e169, hwi]
                            exact ⟨rfl, _, back hwY, hv⟩
                    · by_cases k3 : w.held t = []
                      · have hl0 : (w.held t).length = 0 := by rw [k3]; rfl
                        by_cases k4 : x.tmod 8 = 7
                        · simp (disch := omega) only [go_sem, ↓reduceIte, e9, e10, e11, e14, e167, e168, e169, hton, hm0, k2, vl, hl0, k4]
                          refine (drop_w (G := G) (w := w) hr100 hwY).mono ?_
                          rintro _ K3 ⟨rfl, hw3⟩
                          obtain ⟨rh, rs, ro, rm, rr, vr, hvv, B, k⟩ := hw3
                          have hsX := k.rows.sub
                          have cX := hsX _ _ k.c
                          have sX := hsX _ _ k.s
                          have hwl := wC_len (vb := .vslice ((List.range n).map fun t => dI (w.base t)) n) (vh := .oslice 1 rh 0 n n) (vs := .oslice 1 rs 0 n n) (vc := .vslice ((List.range m).map fun o => dI (w.ceil o)) m) (vo := .oslice 3 ro 0 m m) (vm := .oslice 1 rm 0 m m) k.lr
                          have hst2 : splice ((List.range n).map fun u => dI ((w.drop t).state u)) t [dI 0] = ((List.range n).map fun u => dI ((w.drop t).state u)).set t (dI 0) := splice_setD _ _ _ (by simpa using ht)
                          have km := k.setState ht 0
                          simp (disch := omega) only [go_sem, ↓reduceIte, e9, e10, e11, e14, e167, e168, e169, cX, hwl, wC_2, sX, hst2, Int.toNat_natCast, List.length_range]
                          refine ⟨i + 1, _, GhostS.refl _, (hQ _ _ _).2 ?_, by omega⟩
                          simp (disch := omega) only [go_sem, ↓reduceIte, e9, e10, e11, e14, e167, e168, e169, hwi]
                          exact ⟨rfl, _, back ⟨_, _, _, _, _, _, _, _, km⟩, hv.goes ht k3 hst⟩
                        · simp (disch := omega) only [go_sem, ↓reduceIte, e9, e10, e11, e14, e167, e168, e169, hton, hm0, k2, vl, hl0, k4]
                          refine ⟨i + 1, _, GhostS.refl _, (hQ _ _ _).2 ?_, by omega⟩
                          simp (disch := omega) only [go_sem, ↓reduceIte, e9, e10, e11, e14, e167, e168, e169, hwi]
                          exact ⟨rfl, _, back hwY, hv⟩
                      · have hl0 : ¬ ((w.held t).length : Int) = 0 := by
                          have := List.length_pos_iff.2 k3; omega
                        obtain ⟨l, o2, hlo⟩ : ∃ l o2, w.held t = l ++ [o2] := ⟨_, _, (List.dropLast_concat_getLast k3).symm⟩
                        have ho2 := (hv.held t ht o2 (by rw [hlo]; simp)).1
                        have hus2 := (hv.held t ht o2 (by rw [hlo]; simp)).2.1
                        obtain ⟨hob1, hob2, hob3⟩ := hv.objs o2 ho2
                        have hobq := mayS_q hob1
                        have hobl := mayQ_len hobq
                        have hobr := fun l h => Nat.le_trans (mayQ_row (l := l) hobq h) (show 32 ≤ 1099511627776 by decide)
                        have hcl0 : 0 ≤ w.ceil o2 ∧ w.ceil o2 ≤ 31 := by
                          have h1 := hv.ceil o2 ho2
                          have h2 := h1.2 t ht hus2
                          have h3 := hv.base t ht
                          omega
                        have hll : (w.held t).length = l.length + 1 := by rw [hlo, List.length_append, List.length_singleton]
                        obtain ⟨qv, off, lo, cs, rfl, hqv, hqc, hel⟩ := hvo.el (by rw [hlo]; simp [cL])
                        have hcl9 : (cL (w.held t)).length = l.length + 1 := by rw [cL_len, hll]
                        rw [hcl9] at hqc
                        have hgl := hel l.length (by rw [cL_len, hll]; omega)
                        have hz : (cL (w.held t))[l.length]'(by rw [cL_len, hll]; omega) = (o2 : Int) := by simp [hlo, cL]
                        rw [hz] at hgl
                        have hqvY : Y qv = some (.cells cs 3) := by rw [hY]; exact keepU hqv (none_ne hq9 hqv)
                        have hlw : IntKind.i64.wrap (((l.length + 1 : Nat) : Int) - 1) = (l.length : Int) := by
                          have := hv.held_le (show m ≤ 4 by omega) ht
                          rw [IntKind.wrap_i64]; omega
                        rw [hll] at hl0
                        have hl0' : ¬ ((l.length : Int) + 1 = 0) := by omega
                        have hvl2 : ((l.length + 1 : Nat) : Int) = (l.length : Int) + 1 := by omega
                        have hrk : ∀ p, p < 32 → (w.ready p).length ≤ 32 := fun p hp => hv.ready_le hp
                        have hheld32 := hv.held_le (show m ≤ 4 by omega) ht
                        have hbt := hv.base t ht
                        have hlw' : IntKind.i64.wrap ((l.length : Int) + 1 - 1) = (l.length : Int) := by rw [IntKind.wrap_i64]; omega
                        have hact1 : 0 ≤ ({ w with held := set1 w.held t l } : LW).act t ∧ ({ w with held := set1 w.held t l } : LW).act t ≤ 31 := by
                          refine activeL_rng (by show 0 ≤ w.base t ∧ w.base t ≤ 31; omega) fun y hy => ?_
                          obtain ⟨c, hc, rfl⟩ := List.mem_map.1 hy
                          have hc' : c ∈ set1 w.held t l t := hc
                          rw [set1_same] at hc'
                          have := (hv.ceil c (hv.held t ht c (by rw [hlo]; exact List.mem_append_left _ hc')).1).1
                          show w.ceil c ≤ 31
                          omega
                        have hog := objs_get w.obj ho2
                        have holn := objs_len w.obj m
                        have g9b : Y q9 = some (.cells ([b4, b5].map .bool) 4) := g9
                        have oX := kY.rows.sub _ _ kY.o
                        have cY := kY.rows.sub _ _ kY.c
                        have h36 := wC_36 (vb := .vslice ((List.range n).map fun t => dI (w.base t)) n) (vh := .oslice 1 rh 0 n n) (vs := .oslice 1 rs 0 n n) (vc := .vslice ((List.range m).map fun o => dI (w.ceil o)) m) (vo := .oslice 3 ro 0 m m) (vm := .oslice 1 rm 0 m m) k.lr
                        by_cases k4 : x.tmod 8 < 7
                        · simp (disch := omega) only [go_sem, ↓reduceIte, e9, e10, e11, e14, e167, e168, e169, hton, hm0, k2, hcl9, hl0, hl0', k4, hlw, hlw', hqvY, hqc, hgl, cY, hwl, h36, oX, hog, holn, dPc_len, Int.toNat_natCast]
                          obtain ⟨hend, hinv⟩ := hv.endA hrun hlo [b4, b5]
                          have hel2 := end_lent G (w.obj o2) [b4, b5] Y g9b (by omega) hobr (by simp)
                          rw [hend] at hel2
                          refine hel2.mono ?_
                          rintro _ K5 ⟨rfl, hK5⟩
                          rw [hK5]
                          obtain ⟨s5, hs5⟩ : ∃ s5, s5 = (releaseL (w.obj o2).q [b4, b5]).1 := ⟨_, rfl⟩
                          obtain ⟨h5, hh5⟩ : ∃ h5, h5 = (releaseL (w.obj o2).q [b4, b5]).2 := ⟨_, rfl⟩
                          rw [← hs5, ← hh5]
                          simp (disch := omega) only [go_sem, ↓reduceIte, dR2, dPS, dH]
                          intro r29 h29; dsimp only at h29
                          simp (disch := omega) only [go_sem, ↓reduceIte, dR2, dPS, dH]
                          intro r30 h30; dsimp only at h30
                          obtain ⟨u1, u2, h30'⟩ := upd_eq_none.1 h30
                          simp (disch := omega) only [go_sem, ↓reduceIte, dR2, dPS, dH, u1, u2, e9, e10, e11, e14, e167, e168, e169]
                          have hm2 : (w.model o2).length ≤ 2 := by rw [hob3]; omega
                          have hov := over_w (G := G) (b := [b4, b5]) (by omega) (by omega) ht ho2 (fun y hy => (hv.held t ht y hy).1) hlo (by omega) hrk (by rw [hob3]; exact hobq) (by show _ ≤ 2; exact hm2) (by simp) (fun _ => hact1) hcl0 (fun p hp => hv.open_in ho2 ht (fun y hy => .inl hy) (by rw [hob3] at hp; exact hp)) hw
                          rw [hob3, ← hs5, ← hh5] at hov
                          have q29 : q9 ≠ r29 := none_ne h29 g9b
                          have q30 : q9 ≠ r30 := none_ne h30' g9b
                          have hsb : ∀ o1 o2 o3 o4, Sub heap (upd (upd (upd (upd Y r29 o1) r30 o2) r29 o3) r30 o4) := fun o1 o2 o3 o4 => by
                            have s1 : Sub heap Y := by rw [hY]; exact (Sub.refl heap).new hq9 _
                            have a29 := s1.lo h29
                            have a30 := s1.lo h30'
                            exact (((s1.up a29 _).up a30 _).up a29 _).up a30 _
                          refine (DCalls.lendLast (pre := [.optr r 0, dI t, dI o2, dPS s5, dH h5]) (v := .oslice 1 q9 0 2 2) (v' := dBs [b4, b5]) (hsb _ _ _ _) (lend_bools (b := [b4, b5]) (by rw [upd_ne _ _ _ _ q30, upd_ne _ _ _ _ q29, upd_ne _ _ _ _ q30, upd_ne _ _ _ _ q29]; exact g9b) (hsb _ _ _ _) hq9) hov).mono ?_
                          rintro _ K6 ⟨rfl, hw6⟩
                          rw [← hs5, ← hh5] at hinv
                          simp (disch := omega) only [go_sem, ↓reduceIte, e9, e10, e11, e14, e167, e168, e169]
                          refine ⟨i + 1, _, GhostS.refl _, (hQ _ _ _).2 ?_, by omega⟩
                          simp (disch := omega) only [go_sem, ↓reduceIte, e9, e10, e11, e14, e167, e168, e169, hwi]
                          exact ⟨rfl, _, hw6, hinv⟩
                        · have h37 := wC_37 (vb := .vslice ((List.range n).map fun t => dI (w.base t)) n) (vh := .oslice 1 rh 0 n n) (vs := .oslice 1 rs 0 n n) (vc := .vslice ((List.range m).map fun o => dI (w.ceil o)) m) (vo := .oslice 3 ro 0 m m) (vm := .oslice 1 rm 0 m m) k.lr
                          have moY := kY.rows.sub _ _ kY.mo
                          have hmg : ((List.range m).map fun o => .oslice 1 (rr o) 0 (w.model o).length (w.model o).length)[o2]? = some (DVal.oslice 1 (rr o2) 0 (w.model o2).length (w.model o2).length) := by
                            rw [List.getElem?_map, List.getElem?_range ho2]; rfl
                          rw [hob3] at hmg
                          by_cases hl1 : l = []
                          · have hl00 : l.length = 0 := by rw [hl1]; rfl
                            have hone : ¬ (1 : Int) < ((l.length + 1 : Nat) : Int) := by omega
                            rcases hob2 with hq0 | hq2
                            · simp (disch := omega) only [go_sem, ↓reduceIte, e9, e10, e11, e14, e167, e168, e169, hton, hm0, k2, hcl9, hl0, hl0', k4, hlw, hlw', hqvY, hqc, hgl, Int.toNat_natCast, hone, cY, hwl, h37, moY, hmg, hq0, List.length_range]
                              refine ⟨i + 1, _, GhostS.refl _, (hQ _ _ _).2 ?_, by omega⟩
                              simp (disch := omega) only [go_sem, ↓reduceIte, e9, e10, e11, e14, e167, e168, e169, hwi]
                              exact ⟨rfl, _, back hwY, hv⟩
                            · obtain ⟨e, hed⟩ : ∃ e, e = a % 2 := ⟨_, rfl⟩
                              have he2 : e < 2 := by omega
                              have hte : (a : Int).tmod 2 = (e : Int) := by rw [Int.tmod_eq_emod_of_nonneg (by omega)]; omega
                              obtain ⟨n4, n5, hsp, hnb⟩ : ∃ n4 n5, splice [DVal.bool b4, DVal.bool b5] e [DVal.bool false] = [DVal.bool n4, DVal.bool n5] ∧ [n4, n5].getD e false = false := by
                                rcases (show e = 0 ∨ e = 1 by omega) with rfl | rfl
                                · exact ⟨false, b5, rfl, rfl⟩
                                · exact ⟨b4, false, rfl, rfl⟩
                              have hg9c := g9
                              have nr9 : r ≠ q9 := none_ne hq9 cX
                              have no9 : ro ≠ q9 := none_ne hq9 (hsX _ _ k.o)
                              have hhl1 : w.held t = [o2] := by rw [hlo, hl1]; rfl
                              obtain ⟨hwt, hinv⟩ := hv.waitA hrun hhl1 (e := e) (by omega) hnb
                              simp (disch := omega) only [go_sem, ↓reduceIte, e9, e10, e11, e14, e167, e168, e169, hton, hm0, k2, hcl9, hl0, hl0', k4, hlw, hlw', hqvY, hqc, hgl, Int.toNat_natCast, hone, cY, hwl, h37, moY, hmg, hq2, List.length_range, hte, hg9c, hsp, nr9, no9, h36, oX, hog, holn, dPc_len]
                              obtain ⟨Y2, hY2⟩ : ∃ Y2, Y2 = upd heap q9 (some (.cells [.bool n4, .bool n5] 4)) := ⟨_, rfl⟩
                              have hYY : upd Y q9 (some (.cells [.bool n4, .bool n5] 4)) = Y2 := by rw [hY, hY2, upd_upd]
                              rw [hYY]
                              have kY2 := k.frame hq9 (.cells [.bool n4, .bool n5] 4)
                              rw [← hY2] at kY2
                              have gq2 : Y2 q9 = some (.cells ([n4, n5].map .bool) 4) := by rw [hY2]; exact upd_same _ _ _
                              have hwl2 := wait_lent G (w.obj o2) e [n4, n5] Y2 gq2 (by omega) hobr (by simp)
                              rw [hwt] at hwl2
                              refine hwl2.mono ?_
                              rintro _ K5 ⟨rfl, hK5⟩
                              rw [hK5]
                              obtain ⟨qn, hqn⟩ : ∃ qn, qn = (w.obj o2).q.set e ((w.obj o2).q.getD e [] ++ [(t : Int)]) := ⟨_, rfl⟩
                              rw [← hqn] at hinv ⊢
                              obtain ⟨s5, hs5⟩ : ∃ s5, s5 = (releaseL qn [n4, n5]).1 := ⟨_, rfl⟩
                              obtain ⟨h5, hh5⟩ : ∃ h5, h5 = (releaseL qn [n4, n5]).2 := ⟨_, rfl⟩
                              rw [← hs5, ← hh5] at hinv ⊢
                              simp (disch := omega) only [go_sem, ↓reduceIte, dR2, dPS, dH]
                              intro r33 h33; dsimp only at h33
                              simp (disch := omega) only [go_sem, ↓reduceIte, dR2, dPS, dH]
                              intro r34 h34; dsimp only at h34
                              obtain ⟨u1, u2, h34'⟩ := upd_eq_none.1 h34
                              simp (disch := omega) only [go_sem, ↓reduceIte, dR2, dPS, dH, u1, u2, e9, e10, e11, e14, e167, e168, e169]
                              obtain ⟨S33, hS33⟩ : ∃ S, S = DObj.cells [.bool s5.locked, dI s5.owner, .vslice (s5.q.map dIs) s5.q.length] 36 := ⟨_, rfl⟩
                              obtain ⟨S34, hS34⟩ : ∃ S, S = DObj.cells [.bool h5.1, dI h5.2.1, dI h5.2.2] 48 := ⟨_, rfl⟩
                              rw [← hS33, ← hS34]
                              have hK1 : ∀ x1 x2, upd (upd (upd (upd Y2 r33 x1) r34 x2) r33 (some S33)) r34 (some S34) = upd (upd Y2 r33 (some S33)) r34 (some S34) := fun x1 x2 => by
                                funext y; simp only [upd]; repeat' split
                                all_goals rfl
                              rw [hK1]
                              obtain ⟨K1, hK1d⟩ : ∃ K1, K1 = upd (upd Y2 r33 (some S33)) r34 (some S34) := ⟨_, rfl⟩
                              rw [← hK1d]
                              have h34c : upd Y2 r33 (some S33) r34 = none := by rw [upd_ne _ _ _ _ u1]; exact h34'
                              have k1w := (kY2.frame h33 S33).frame h34c S34
                              rw [← hK1d] at k1w
                              refine (drop_w (G := G) (w := w) hr100 ⟨_, _, _, _, _, _, _, _, k1w⟩).mono ?_
                              rintro _ K2 ⟨rfl, hw2⟩
                              obtain ⟨rh, rs, ro, rm, rr, vr, hvv, B, k⟩ := hw2
                              have km := k.setState ht 2
                              have hsX := k.rows.sub
                              have cX := hsX _ _ k.c
                              have sX := hsX _ _ k.s
                              have hwl := wC_len (vb := .vslice ((List.range n).map fun t => dI (w.base t)) n) (vh := .oslice 1 rh 0 n n) (vs := .oslice 1 rs 0 n n) (vc := .vslice ((List.range m).map fun o => dI (w.ceil o)) m) (vo := .oslice 3 ro 0 m m) (vm := .oslice 1 rm 0 m m) k.lr
                              have hst2 : splice ((List.range n).map fun u => dI ((w.drop t).state u)) t [dI 2] = ((List.range n).map fun u => dI ((w.drop t).state u)).set t (dI 2) := splice_setD _ _ _ (by simpa using ht)
                              simp (disch := omega) only [go_sem, ↓reduceIte, e9, e10, e11, e14, e167, e168, e169, cX, hwl, wC_2, sX, hst2, Int.toNat_natCast, List.length_range]
                              obtain ⟨K3, hK3⟩ : ∃ K3, K3 = upd K2 rs (some (.cells (((List.range n).map fun u => dI ((w.drop t).state u)).set t (dI 2)) 3)) := ⟨_, rfl⟩
                              obtain ⟨B3, hB3⟩ : ∃ B3, B3 = upd B rs (some (.cells (((List.range n).map fun u => dI ((w.drop t).state u)).set t (dI 2)) 3)) := ⟨_, rfl⟩
                              rw [← hK3, ← hB3] at km
                              rw [← hK3]
                              obtain ⟨wd, hwd⟩ : ∃ wd : LW, wd = { w.drop t with state := set1 (w.drop t).state t 2 } := ⟨_, rfl⟩
                              rw [← hwd] at km
                              obtain ⟨H1x, hH1x⟩ : ∃ H1x, H1x = upd (upd (upd X0 q9 (some (.cells [.bool n4, .bool n5] 4))) r33 (some S33)) r34 (some S34) := ⟨_, rfl⟩
                              rw [← hH1x] at km
                              have hwdm : wd.model o2 = (w.obj o2).q := by rw [hwd]; exact hob3
                              have hsX := km.rows.sub
                              have cX := hsX _ _ km.c
                              have moX := hsX _ _ km.mo
                              have hmr := hsX _ _ (km.mr o2 ho2)
                              rw [hwdm] at hmr
                              have hwl := wC_len (vb := .vslice ((List.range n).map fun t => dI (wd.base t)) n) (vh := .oslice 1 rh 0 n n) (vs := .oslice 1 rs 0 n n) (vc := .vslice ((List.range m).map fun o => dI (wd.ceil o)) m) (vo := .oslice 3 ro 0 m m) (vm := .oslice 1 rm 0 m m) km.lr
                              have h37 := wC_37 (vb := .vslice ((List.range n).map fun t => dI (wd.base t)) n) (vh := .oslice 1 rh 0 n n) (vs := .oslice 1 rs 0 n n) (vc := .vslice ((List.range m).map fun o => dI (wd.ceil o)) m) (vo := .oslice 3 ro 0 m m) (vm := .oslice 1 rm 0 m m) km.lr
                              have hmg : ((List.range m).map fun o => .oslice 1 (rr o) 0 (wd.model o).length (wd.model o).length)[o2]? = some (DVal.oslice 1 (rr o2) 0 (wd.model o2).length (wd.model o2).length) := by
                                rw [List.getElem?_map, List.getElem?_range ho2]; rfl
                              rw [hwdm, hq2] at hmg
                              have heq : e < (w.obj o2).q.length := by omega
                              obtain ⟨le, hle⟩ : ∃ le, le = (w.obj o2).q[e] := ⟨_, rfl⟩
                              have hge : ((w.obj o2).q.map dIs)[e]? = some (dIs le) := by rw [List.getElem?_map, List.getElem?_eq_getElem heq, hle]; rfl
                              have hgd : (w.obj o2).q.getD e [] = le := by rw [List.getD_eq_getElem?_getD, List.getElem?_eq_getElem heq, hle]; rfl
                              have hlel : le.length ≤ 32 := by rw [hle]; exact mayQ_row hobq (List.getElem_mem heq)
                              have hqml : ((w.obj o2).q.map dIs).length = 2 := by rw [List.length_map]; exact hq2
                              have hspq : ∀ z, splice ((w.obj o2).q.map dIs) e [z] = ((w.obj o2).q.map dIs).set e z := fun z => splice_setD _ _ _ (by omega)
                              refine dwp_cut (fun x s' => x = .normal ∧ s'.env 9 = dI n ∧ s'.env 10 = dI m ∧ s'.env 11 = .optr r 0 ∧ s'.env 14 = .func (.func 5) [] [.optr r5 0] ∧ s'.env 167 = .vslice (script.map (.int .u16)) script.length ∧ s'.env 168 = dI script.length ∧ s'.env 169 = dI i ∧ s'.env 25 = dI t ∧ s'.env 28 = dI o2 ∧ s'.env 27 = .oslice 1 q9 0 2 2 ∧ s'.env 33 = .optr r33 0 ∧ s'.env 34 = .optr r34 0 ∧ s'.env 35 = dI 0 ∧ ∃ v, OwnJ (upd K3 (rr o2) (some (.cells (((w.obj o2).q.map dIs).set e v) 27))) 3 1 (le.length + 1) (le.map dI ++ [dI t]) v s'.heap) ?_ ?_
                              · refine dwp_draws (by kernel_rfl) (.take 0 (.take 1 (.take 2 (.take 3 (.take 4 (.take 5 (.take 6 (.take 7 (.take 8 (.take 9 (.take 10 (.take 11 (.take 12 (.take 13 (.take 14 (.take 15 (.take 16 (.take 17 (.take 19 (.alt (.go 20 [17, 14, 11, 6, 3] (.go 18 [6, 3] (.go 21 [6, 3] (.take 22 (.go 23 [] .done))))) (.go 18 [6, 3] (.go 20 [17, 14, 11, 6, 3] (.go 21 [6, 3] (.take 22 (.go 23 [] .done))))))))))))))))))))))))) (by kernel_rfl) ?_
                                simp (disch := omega) only [go_sem, ↓reduceIte, e9, e10, e11, e14, e167, e168, e169, cX, hwl, h37, moX, hmg, hmr, hge, hqml, Int.toNat_natCast, List.length_range]
                                refine ⟨?_, ?_⟩
                                · intro q20 h20; dsimp only at h20
                                  have c1 := none_ne h20 cX
                                  have m1 := none_ne h20 moX
                                  have r1 := none_ne h20 hmr
                                  simp (disch := omega) only [go_sem, ↓reduceIte, e9, e10, e11, e14, e167, e168, e169, c1, m1, r1, cX, hwl, h37, moX, hmg, hmr, hge, hqml, Int.toNat_natCast, List.length_range]
                                  refine (clone_own G le _ (by omega)).mono ?_
                                  rintro _ K4 ⟨v1, rfl, hv1⟩
                                  have hj := hv1.j
                                  have cX4 := hj.sub _ _ ((upd_ne K3 q20 _ _ c1).trans cX)
                                  have mX4 := hj.sub _ _ ((upd_ne K3 q20 _ _ m1).trans moX)
                                  have hm4 := hj.sub _ _ ((upd_ne K3 q20 _ _ r1).trans hmr)
                                  have q4 := hj.sub _ _ (upd_same K3 q20 _)
                                  simp (disch := omega) only [go_sem, ↓reduceIte, e9, e10, e11, e14, e167, e168, e169, cX4, mX4, hm4, q4, hwl, h37, hmg, hge, hqml, Int.toNat_natCast, List.length_range]
                                  refine ⟨⟨by rw [if_neg m1]; exact moX.symm, by rw [if_neg c1]; exact cX.symm⟩, ?_⟩
                                  refine OwnJ.append (m := 1) hj rfl (by omega) fun v2 K5 hj2 => ?_
                                  have hs5 := hj2.less ((Sub.refl K3).new h20 _)
                                  have cX5 := hs5.sub _ _ cX
                                  have mX5 := hs5.sub _ _ moX
                                  have hm5 := hs5.sub _ _ hmr
                                  simp (disch := omega) only [go_sem, ↓reduceIte, e9, e10, e11, e14, e167, e168, e169, cX5, mX5, hm5, cX4, mX4, hm4, hwl, h37, hmg, hge, hqml, hspq, Int.toNat_natCast, List.length_range]
                                  have hv2c : v2.cells = [v2] ∧ v2.one = true := by
                                    rcases hj2 with ⟨h, _⟩ | ⟨_, _, _, h, _⟩
                                    · omega
                                    · subst h; exact ⟨rfl, rfl⟩
                                  rw [hv2c.1]
                                  exact ⟨rfl, by simp [hv2c.2], v2, by rw [hspq]; exact hs5.atB hmr _⟩
                                · refine (clone_own G le _ (by omega)).mono ?_
                                  rintro _ K4 ⟨v1, rfl, hv1⟩
                                  have hj := hv1.j
                                  have cX4 := hj.sub _ _ cX
                                  have mX4 := hj.sub _ _ moX
                                  have hm4 := hj.sub _ _ hmr
                                  simp (disch := omega) only [go_sem, ↓reduceIte, e9, e10, e11, e14, e167, e168, e169, cX4, mX4, hm4, hwl, h37, hmg, hge, hqml, Int.toNat_natCast, List.length_range]
                                  refine ⟨⟨moX.symm, cX.symm⟩, ?_⟩
                                  intro q20 h20; dsimp only at h20
                                  have c1 := none_ne h20 cX4
                                  have m1 := none_ne h20 mX4
                                  have r1 := none_ne h20 hm4
                                  simp (disch := omega) only [go_sem, ↓reduceIte, e9, e10, e11, e14, e167, e168, e169, c1, m1, r1, cX4, mX4, hm4, hwl, h37, hmg, hge, hqml, Int.toNat_natCast, List.length_range]
                                  refine OwnJ.append (m := 1) (hj.new h20 _) rfl (by omega) fun v2 K5 hs5 => ?_
                                  have cX5 := hs5.sub _ _ cX
                                  have mX5 := hs5.sub _ _ moX
                                  have hm5 := hs5.sub _ _ hmr
                                  simp (disch := omega) only [go_sem, ↓reduceIte, e9, e10, e11, e14, e167, e168, e169, cX5, mX5, hm5, cX4, mX4, hm4, hwl, h37, hmg, hge, hqml, hspq, Int.toNat_natCast, List.length_range]
                                  have hv2c : v2.cells = [v2] ∧ v2.one = true := by
                                    rcases hs5 with ⟨h, _⟩ | ⟨_, _, _, h, _⟩
                                    · omega
                                    · subst h; exact ⟨rfl, rfl⟩
                                  rw [hv2c.1]
                                  refine ⟨⟨by rw [if_neg m1], by rw [if_neg c1]⟩, rfl, by simp [hv2c.2], v2, by rw [hspq]; exact hs5.atB hmr _⟩
                              · rintro _ ⟨env, K4⟩ ⟨rfl, e9, e10, e11, e14, e167, e168, e169, e25, e28, e27, e33, e34, e35, v, hv4⟩
                                dsimp only at e9 e10 e11 e14 e167 e168 e169 e25 e28 e27 e33 e34 e35 hv4
                                obtain ⟨ln, hln⟩ : ∃ ln, ln = le ++ [(t : Int)] := ⟨_, rfl⟩
                                have hqn2 : qn = (w.obj o2).q.set e ln := by rw [hqn, hgd, hln]
                                have hqnl : qn.length = 2 := by rw [hqn2, List.length_set]; exact hq2
                                obtain ⟨hB2r, hv5⟩ : True ∧ OwnJ (upd K3 (rr o2) (some (.cells (((w.obj o2).q.map dIs).set e v) 27))) 3 1 ln.length (ln.map dI) v K4 := ⟨trivial, by rw [hln, List.length_append, List.map_append]; exact hv4⟩
                                have hKq : K4 (rr o2) = some (.cells (((w.obj o2).q.map dIs).set e v) 27) := hv5.sub _ _ (upd_same _ _ _)
                                obtain ⟨Kf, hf1, hf2, hf3, -, hf5⟩ := fzRow heq hKq hv5 (by rw [upd_same]; exact fun h => by cases h)
                                rw [← hqn2, upd_upd] at hf5
                                rw [← hqn2] at hf3
                                have k5 := km.setModel ho2 qn (by rw [hwdm, hqnl, hq2])
                                rw [← hf5] at k5
                                obtain ⟨wq, hwq⟩ : ∃ wq : LW, wq = { wd with model := set1 wd.model o2 qn } := ⟨_, rfl⟩
                                rw [← hwq] at k5
                                have hne1 : q9 ≠ r33 := none_ne h33 gq2
                                have hne2 : q9 ≠ r34 := none_ne h34' gq2
                                have hx1 : H1x r34 = some S34 := by rw [hH1x]; exact upd_same _ _ _
                                have hx2 : H1x r33 = some S33 := by rw [hH1x, upd_ne _ _ _ _ (Ne.symm u1)]; exact upd_same _ _ _
                                have hx3 : H1x q9 = some (.cells ([n4, n5].map .bool) 4) := by rw [hH1x, upd_ne _ _ _ _ hne2, upd_ne _ _ _ _ hne1]; exact upd_same _ _ _
                                have hnr : H1x (rr o2) = none := km.nw (rr o2) (by simp only [List.mem_cons, List.mem_map, List.mem_range]; exact .inr (.inr (.inr (.inr (.inr ⟨o2, ho2, rfl⟩)))))
                                have hin4 : ∀ {y x}, H1x y = some x → K4 y = some x := fun {y x} hy => hv5.sub _ _ (by
                                  rw [upd_ne _ _ _ _ (fun e => by rw [e, hnr] at hy; cases hy)]
                                  exact km.rows.sub _ _ (km.sub _ _ hy))
                                have hL33 := hin4 hx2
                                have hL34 := hin4 hx1
                                rw [hS33] at hL33
                                rw [hS34] at hL34
                                have n33 := Sub.lo kY2.sub (Sub.lo kY2.rows.sub h33)
                                have n34 : upd (upd X0 q9 (some (.cells [.bool n4, .bool n5] 4))) r33 (some S33) r34 = none := by
                                  rw [upd_ne _ _ _ _ u1]; exact Sub.lo kY2.sub (Sub.lo kY2.rows.sub h34')
                                have n9 : X0 q9 = none := hw.sub.lo hq9
                                have hK9 : Kf q9 = some (.cells ([n4, n5].map .bool) 4) := k5.rows.sub _ _ (k5.sub _ _ hx3)
                                have kw5 : WAt H1x n m r wq Kf := ⟨_, _, _, _, _, _, _, _, k5⟩
                                rw [hH1x] at kw5
                                have kw6 := ((kw5.unframe n34).1.unframe n33).1.unframe n9
                                have kw7 := kw6.1
                                obtain ⟨Kz, hKz⟩ : ∃ Kz, Kz = upd (upd (upd Kf r34 none) r33 none) q9 none := ⟨_, rfl⟩
                                rw [← hKz] at kw7
                                have hz1 : Sub Kz Kf := by
                                  rw [hKz]
                                  intro b o hb
                                  simp only [upd] at hb
                                  split at hb
                                  · cases hb
                                  · split at hb
                                    · cases hb
                                    · split at hb
                                      · cases hb
                                      · exact hb
                                have hz2 : Kz q9 = none := by rw [hKz]; exact upd_same _ _ _
                                have hwm : wq.model o2 = qn := by rw [hwq]; exact set1_same _ _ _
                                have hwh : wq.held t = [] ++ [o2] := by rw [hwq, hwd]; exact hhl1
                                have hws : wq.state t = 2 := by rw [hwq, hwd]; exact set1_same _ _ _
                                have hwr : ∀ p, p < 32 → (wq.ready p).length ≤ 32 := fun p hp => by
                                  rw [hwq, hwd]
                                  exact Nat.le_trans (List.length_filter_le _ _) (hrk p hp)
                                have hwb : wq.base = w.base ∧ wq.ceil = w.ceil := by rw [hwq, hwd]; exact ⟨rfl, rfl⟩
                                have htq : (t : Int) ∉ (w.obj o2).q.flatten := hv.waits (t := t) (by rw [hst]; decide) ho2
                                have hmq : mayQ qn = true := by
                                  rw [hqn2, hln, hle]
                                  exact mayQ_put hobq heq (by omega) htq
                                have hov := over_w (G := G) (w := wq) (b := [n4, n5]) (l := []) (by omega) (by omega) ht ho2 (fun y hy => by rw [hwh] at hy; simp at hy; omega) hwh (by decide) hwr (by rw [hwm]; exact hmq) (by rw [hwm, hqnl]; exact Nat.le_refl _) (by simp) (fun h => by rw [hws] at h; cases h) (by rw [hwb.2]; exact hcl0) (fun p hp => by
                                  rw [hwb.1]
                                  rw [hwm] at hp
                                  exact hv.open_in ho2 ht (fun y hy => by
                                    rw [hqn2, hln, hle, mem_flat_set _ _ _ heq] at hy
                                    rcases hy with h | h
                                    · exact .inl h
                                    · exact .inr (by simpa using h)) hp) kw7
                                rw [hwm, ← hs5, ← hh5] at hov
                                simp (disch := omega) only [go_sem, ↓reduceIte, e9, e10, e11, e14, e167, e168, e169, e25, e28, e27, e33, e34, e35, hL33, hL34]
                                refine (DCalls.seenLast (pre := [.optr r 0, dI t, dI o2, dPS s5, dH h5]) (v := .oslice 1 q9 0 2 2) (v' := dBs [n4, n5]) (Hs := Kz) (fun b hb => by
                                  rw [hKz]
                                  simp only [upd]
                                  split
                                  · rfl
                                  · split
                                    · rfl
                                    · split
                                      · rfl
                                      · exact hf1 b hb) (fun w hw => ((GhostE.sub hz1 (.tuple [])) w (hf2 w hw)).1) (fun w hw x hx => lend_bools (b := [n4, n5]) hK9 hz1 hz2 w (hf2 w hw) x (Rel.lasts ⟨fun b i x hb hc => ⟨hf1 b hb, hc⟩, Nat.le_refl _, fun _ _ => rfl⟩ _ _ hx)) hov).mono ?_
                                rintro _ K6 ⟨rfl, hw6⟩
                                simp (disch := omega) only [go_sem, ↓reduceIte, e9, e10, e11, e14, e167, e168, e169]
                                refine ⟨i + 1, _, GhostS.refl _, (hQ _ _ _).2 ?_, by omega⟩
                                simp (disch := omega) only [go_sem, ↓reduceIte, e9, e10, e11, e14, e167, e168, e169, hwi]
                                exact ⟨rfl, _, hw6, by rw [hwq, hwd]; exact hinv⟩
                          · have hone : (1 : Int) < ((l.length + 1 : Nat) : Int) := by have := List.length_pos_iff.2 hl1; omega
                            simp (disch := omega) only [go_sem, ↓reduceIte, e9, e10, e11, e14, e167, e168, e169, hton, hm0, k2, hcl9, hl0, hl0', k4, hlw, hlw', hqvY, hqc, hgl, Int.toNat_natCast, hone]
                            refine ⟨i + 1, _, GhostS.refl _, (hQ _ _ _).2 ?_, by omega⟩
                            simp (disch := omega) only [go_sem, ↓reduceIte, e9, e10, e11, e14, e167, e168, e169, hwi]
                            exact ⟨rfl, _, back hwY, hv⟩
              · have hil' : i = script.length := by omega
                subst hil'
                have hlt' : ¬ (script.length : Int) < (script.length : Int) := by omega
                simp (disch := omega) only [go_sem, ↓reduceIte, e9, e10, e11, e14, e167, e168, e169, hlt']
                refine (awake32_spec G hG _).mono ?_
                rintro _ K2 ⟨rfl, rfl⟩
                simp (disch := omega) only [go_sem, ↓reduceIte]
                exact DFin.sub (s0.trans hw.sub) (DFin.refl ⟨rfl, rfl⟩)
end Go.Dl
